/-
  NARROWER THAN 'FOR EVERY INPUT', by the rows' own cells (each row's printed sentence says how): SyntaxValids: loops, laid · SyntaxLarge: laid · SyntaxReplaces: loops, laid · SyntaxParts: loops, laid · EnvNews: laid · EnvValid: loops, laid · EnvSubs: loops, laid · EnvOptions: loops, laid · EnvLetters: loops, laid · EnvSame: loops, laid · EnvFunctions: loops, laid · EnvDefines: loops, laid.
  DERIVED. THE GIVEN ROWS OF THIS SEAT. 12 by the template 'for every input the law returns true; each argument reads behind the call as it read before'; 0 by the template 'total and deterministic' (their statements: YtflfflfodghgpaaGreatDoorTotals.lean).
  GIVEN WITH THE SEED: the statements are not yours to turn. If you find one false, say at which input.
  Laid BY PROGRAM, IN A SANDBOX (cutbox-rows.mjs): the forced cells as the released guide's own fill.sh prints them over the translation a019201af5cceef4… (all of the seat's roots in one cut). By AI agents, Wed Nov 11 2026. No macro, syntax, notation, axiom, sorry.
-/
import Derived.Test.YtflfflfodghgpaaGreatDoorChecked
import GoSem.PinnedTables
import GoSem.Claim
import GoSem.ClaimJoined
import GoSem.ClaimMapViews
import Derived.JoinedTies
import Derived.KernelRfl
namespace Go.Proofs.YtflfflfodghgpaaGreatDoor
/- THE CELL 'sum', in the pinned program and in every row, IS THE sha256 OF THE DUMP (.gsa) THAT YtflfflfodghgpaaGreatDoorProg.lean LOADS. Nothing in Lean hashes anything: it is a label: what it is worth is what the hold of that sum in a sandbox is worth. -/
noncomputable def Tryz.pinned : Pinned := { name := "ytflfflfodghgpaagreatdoor", sum := "a019201af5cceef4d6e5b41f53aae115d3ae61d45be207c69d4a256593b840bd", checked := Tryz.checked }
namespace Rows
def none {H : Type} : Left H := { results := [], args := [] }

/- WHAT THE LISTED PACKAGE-LEVEL VARIABLES READ AS WHEN THE CALL BEGINS. Each datum BY PROGRAM (the guide's laid-datum.mjs) off the statement by which the dump's own 'gosem.cut.vars' lays the variable. In a bare row this is a premise. The card (YtflfflfodghgpaaGreatDoorCards.lean) ties it to the program's text. -/
def laid_unicode_utf8_acceptRanges {H : Type} : DataW H := .agg [.agg [.lit (.int .u8 128), .lit (.int .u8 191)], .agg [.lit (.int .u8 160), .lit (.int .u8 191)], .agg [.lit (.int .u8 128), .lit (.int .u8 159)], .agg [.lit (.int .u8 144), .lit (.int .u8 191)], .agg [.lit (.int .u8 128), .lit (.int .u8 143)], .agg [.lit (.int .u8 0), .lit (.int .u8 0)], .agg [.lit (.int .u8 0), .lit (.int .u8 0)], .agg [.lit (.int .u8 0), .lit (.int .u8 0)], .agg [.lit (.int .u8 0), .lit (.int .u8 0)], .agg [.lit (.int .u8 0), .lit (.int .u8 0)], .agg [.lit (.int .u8 0), .lit (.int .u8 0)], .agg [.lit (.int .u8 0), .lit (.int .u8 0)], .agg [.lit (.int .u8 0), .lit (.int .u8 0)], .agg [.lit (.int .u8 0), .lit (.int .u8 0)], .agg [.lit (.int .u8 0), .lit (.int .u8 0)], .agg [.lit (.int .u8 0), .lit (.int .u8 0)]]
/-- One of Go's own tables, pinned by name: the form's constant. -/
def laid_unicode_utf8_first : DataW Unit := Go.Pinned.utf8First

/-- 'jobshelllaw11.SyntaxValids': WHATEVER THE INPUT: true; the input reads as it did. -/
def syntaxValidsSpec : ChangeSpec := { name := "syntaxValids", fn := fun _ => fun
  | [d] => { results := [.lit (.bool true)], args := [d] }
  | _ => none }
def syntaxValidsRow : OpenClaim := { program := "ytflfflfodghgpaagreatdoor", sum := "a019201af5cceef4d6e5b41f53aae115d3ae61d45be207c69d4a256593b840bd", func := "jobshell/jobshelllaw11.SyntaxValids", spec := "syntaxValids", inPlace := ["internal/bytealg.IndexByteString", "internal/bytealg.IndexString", "internal/abi.NoEscape"], unfollowed := true, recurses := true, named := ["internal/bytealg.MaxLen", "unicode/utf8.first", "unicode/utf8.acceptRanges"], loops := true, apart := false, laid := [("unicode/utf8.acceptRanges", laid_unicode_utf8_acceptRanges), ("unicode/utf8.first", laid_unicode_utf8_first)] }
def SyntaxValidsSaid : Prop := syntaxValidsRow.holds Tryz.pinned (OpenSpec.ofChange syntaxValidsSpec)

/-- ITS FALSE NEIGHBOUR: 'it returns false'. Refute it at one input. -/
def syntaxValidsWrong : ChangeSpec := { name := "syntaxValids", fn := fun _ => fun
  | [d] => { results := [.lit (.bool false)], args := [d] }
  | _ => none }
def SyntaxValidsWrongFalsely : Prop := syntaxValidsRow.holds Tryz.pinned (OpenSpec.ofChange syntaxValidsWrong)

/-- 'jobshelllaw11.SyntaxLarge': WHATEVER THE INPUT: true; the input reads as it did. -/
def syntaxLargeSpec : ChangeSpec := { name := "syntaxLarge", fn := fun _ => fun
  | [d1, d2] => { results := [.lit (.bool true)], args := [d1, d2] }
  | _ => none }
def syntaxLargeRow : OpenClaim := { program := "ytflfflfodghgpaagreatdoor", sum := "a019201af5cceef4d6e5b41f53aae115d3ae61d45be207c69d4a256593b840bd", func := "jobshell/jobshelllaw11.SyntaxLarge", spec := "syntaxLarge", inPlace := ["internal/bytealg.IndexByteString", "internal/bytealg.IndexString", "internal/abi.NoEscape"], unfollowed := true, recurses := true, named := ["internal/bytealg.MaxLen", "unicode/utf8.first", "unicode/utf8.acceptRanges"], apart := false, laid := [("unicode/utf8.acceptRanges", laid_unicode_utf8_acceptRanges), ("unicode/utf8.first", laid_unicode_utf8_first)] }
def SyntaxLargeSaid : Prop := syntaxLargeRow.holds Tryz.pinned (OpenSpec.ofChange syntaxLargeSpec)

/-- ITS FALSE NEIGHBOUR: 'it returns false'. Refute it at one input. -/
def syntaxLargeWrong : ChangeSpec := { name := "syntaxLarge", fn := fun _ => fun
  | [d1, d2] => { results := [.lit (.bool false)], args := [d1, d2] }
  | _ => none }
def SyntaxLargeWrongFalsely : Prop := syntaxLargeRow.holds Tryz.pinned (OpenSpec.ofChange syntaxLargeWrong)

/-- 'jobshelllaw11.SyntaxReplaces': WHATEVER THE INPUT: true; the input reads as it did. -/
def syntaxReplacesSpec : ChangeSpec := { name := "syntaxReplaces", fn := fun _ => fun
  | [d1, d2, d3] => { results := [.lit (.bool true)], args := [d1, d2, d3] }
  | _ => none }
def syntaxReplacesRow : OpenClaim := { program := "ytflfflfodghgpaagreatdoor", sum := "a019201af5cceef4d6e5b41f53aae115d3ae61d45be207c69d4a256593b840bd", func := "jobshell/jobshelllaw11.SyntaxReplaces", spec := "syntaxReplaces", inPlace := ["internal/bytealg.IndexByteString", "internal/bytealg.IndexString", "internal/abi.NoEscape"], unfollowed := true, recurses := true, named := ["internal/bytealg.MaxLen", "unicode/utf8.first", "unicode/utf8.acceptRanges"], loops := true, apart := false, laid := [("unicode/utf8.acceptRanges", laid_unicode_utf8_acceptRanges), ("unicode/utf8.first", laid_unicode_utf8_first)] }
def SyntaxReplacesSaid : Prop := syntaxReplacesRow.holds Tryz.pinned (OpenSpec.ofChange syntaxReplacesSpec)

/-- ITS FALSE NEIGHBOUR: 'it returns false'. Refute it at one input. -/
def syntaxReplacesWrong : ChangeSpec := { name := "syntaxReplaces", fn := fun _ => fun
  | [d1, d2, d3] => { results := [.lit (.bool false)], args := [d1, d2, d3] }
  | _ => none }
def SyntaxReplacesWrongFalsely : Prop := syntaxReplacesRow.holds Tryz.pinned (OpenSpec.ofChange syntaxReplacesWrong)

/-- 'jobshelllaw11.SyntaxParts': WHATEVER THE INPUT: true; the input reads as it did. -/
def syntaxPartsSpec : ChangeSpec := { name := "syntaxParts", fn := fun _ => fun
  | [d] => { results := [.lit (.bool true)], args := [d] }
  | _ => none }
def syntaxPartsRow : OpenClaim := { program := "ytflfflfodghgpaagreatdoor", sum := "a019201af5cceef4d6e5b41f53aae115d3ae61d45be207c69d4a256593b840bd", func := "jobshell/jobshelllaw11.SyntaxParts", spec := "syntaxParts", inPlace := ["internal/bytealg.IndexByteString", "internal/bytealg.IndexString", "internal/abi.NoEscape"], unfollowed := true, recurses := true, named := ["internal/bytealg.MaxLen", "unicode/utf8.first", "unicode/utf8.acceptRanges"], loops := true, apart := false, laid := [("unicode/utf8.acceptRanges", laid_unicode_utf8_acceptRanges), ("unicode/utf8.first", laid_unicode_utf8_first)] }
def SyntaxPartsSaid : Prop := syntaxPartsRow.holds Tryz.pinned (OpenSpec.ofChange syntaxPartsSpec)

/-- ITS FALSE NEIGHBOUR: 'it returns false'. Refute it at one input. -/
def syntaxPartsWrong : ChangeSpec := { name := "syntaxParts", fn := fun _ => fun
  | [d] => { results := [.lit (.bool false)], args := [d] }
  | _ => none }
def SyntaxPartsWrongFalsely : Prop := syntaxPartsRow.holds Tryz.pinned (OpenSpec.ofChange syntaxPartsWrong)

/-- 'jobshelllaw33.EnvNews': WHATEVER THE INPUT: true; the input reads as it did. -/
def envNewsSpec : ChangeSpec := { name := "envNews", fn := fun _ => fun
  | [d1, d2, d3] => { results := [.lit (.bool true)], args := [d1, d2, d3] }
  | _ => none }
def envNewsRow : OpenClaim := { program := "ytflfflfodghgpaagreatdoor", sum := "a019201af5cceef4d6e5b41f53aae115d3ae61d45be207c69d4a256593b840bd", func := "jobshell/jobshelllaw33.EnvNews", spec := "envNews", inPlace := ["internal/bytealg.IndexByteString", "internal/bytealg.IndexString", "internal/abi.NoEscape", "internal/bytealg.CountString", "internal/bytealg.MakeNoZero"], unfollowed := true, recurses := true, named := ["internal/bytealg.MaxLen", "unicode/utf8.first", "unicode/utf8.acceptRanges"], apart := false, laid := [("unicode/utf8.acceptRanges", laid_unicode_utf8_acceptRanges), ("unicode/utf8.first", laid_unicode_utf8_first)] }
def EnvNewsSaid : Prop := envNewsRow.holds Tryz.pinned (OpenSpec.ofChange envNewsSpec)

/-- ITS FALSE NEIGHBOUR: 'it returns false'. Refute it at one input. -/
def envNewsWrong : ChangeSpec := { name := "envNews", fn := fun _ => fun
  | [d1, d2, d3] => { results := [.lit (.bool false)], args := [d1, d2, d3] }
  | _ => none }
def EnvNewsWrongFalsely : Prop := envNewsRow.holds Tryz.pinned (OpenSpec.ofChange envNewsWrong)

/-- 'jobshelllaw33.EnvValid': WHATEVER THE INPUT: true; the input reads as it did. -/
def envValidSpec : ChangeSpec := { name := "envValid", fn := fun _ => fun
  | [d] => { results := [.lit (.bool true)], args := [d] }
  | _ => none }
def envValidRow : OpenClaim := { program := "ytflfflfodghgpaagreatdoor", sum := "a019201af5cceef4d6e5b41f53aae115d3ae61d45be207c69d4a256593b840bd", func := "jobshell/jobshelllaw33.EnvValid", spec := "envValid", inPlace := ["internal/bytealg.IndexByteString", "internal/bytealg.IndexString", "internal/abi.NoEscape", "internal/bytealg.CountString", "internal/bytealg.MakeNoZero"], unfollowed := true, recurses := true, named := ["internal/bytealg.MaxLen", "unicode/utf8.first", "unicode/utf8.acceptRanges"], loops := true, apart := false, laid := [("unicode/utf8.acceptRanges", laid_unicode_utf8_acceptRanges), ("unicode/utf8.first", laid_unicode_utf8_first)] }
def EnvValidSaid : Prop := envValidRow.holds Tryz.pinned (OpenSpec.ofChange envValidSpec)

/-- ITS FALSE NEIGHBOUR: 'it returns false'. Refute it at one input. -/
def envValidWrong : ChangeSpec := { name := "envValid", fn := fun _ => fun
  | [d] => { results := [.lit (.bool false)], args := [d] }
  | _ => none }
def EnvValidWrongFalsely : Prop := envValidRow.holds Tryz.pinned (OpenSpec.ofChange envValidWrong)

/-- 'jobshelllaw33.EnvSubs': WHATEVER THE INPUT: true; the input reads as it did. -/
def envSubsSpec : ChangeSpec := { name := "envSubs", fn := fun _ => fun
  | [d] => { results := [.lit (.bool true)], args := [d] }
  | _ => none }
def envSubsRow : OpenClaim := { program := "ytflfflfodghgpaagreatdoor", sum := "a019201af5cceef4d6e5b41f53aae115d3ae61d45be207c69d4a256593b840bd", func := "jobshell/jobshelllaw33.EnvSubs", spec := "envSubs", inPlace := ["internal/bytealg.IndexByteString", "internal/bytealg.IndexString", "internal/abi.NoEscape", "internal/bytealg.CountString", "internal/bytealg.MakeNoZero"], unfollowed := true, recurses := true, named := ["internal/bytealg.MaxLen", "unicode/utf8.first", "unicode/utf8.acceptRanges"], loops := true, apart := false, laid := [("unicode/utf8.acceptRanges", laid_unicode_utf8_acceptRanges), ("unicode/utf8.first", laid_unicode_utf8_first)] }
def EnvSubsSaid : Prop := envSubsRow.holds Tryz.pinned (OpenSpec.ofChange envSubsSpec)

/-- ITS FALSE NEIGHBOUR: 'it returns false'. Refute it at one input. -/
def envSubsWrong : ChangeSpec := { name := "envSubs", fn := fun _ => fun
  | [d] => { results := [.lit (.bool false)], args := [d] }
  | _ => none }
def EnvSubsWrongFalsely : Prop := envSubsRow.holds Tryz.pinned (OpenSpec.ofChange envSubsWrong)

/-- 'jobshelllaw33.EnvOptions': WHATEVER THE INPUT: true; the input reads as it did. -/
def envOptionsSpec : ChangeSpec := { name := "envOptions", fn := fun _ => fun
  | [d1, d2, d3] => { results := [.lit (.bool true)], args := [d1, d2, d3] }
  | _ => none }
def envOptionsRow : OpenClaim := { program := "ytflfflfodghgpaagreatdoor", sum := "a019201af5cceef4d6e5b41f53aae115d3ae61d45be207c69d4a256593b840bd", func := "jobshell/jobshelllaw33.EnvOptions", spec := "envOptions", inPlace := ["internal/bytealg.IndexByteString", "internal/bytealg.IndexString", "internal/abi.NoEscape", "internal/bytealg.CountString", "internal/bytealg.MakeNoZero"], unfollowed := true, recurses := true, named := ["internal/bytealg.MaxLen", "unicode/utf8.first", "unicode/utf8.acceptRanges"], loops := true, apart := false, laid := [("unicode/utf8.acceptRanges", laid_unicode_utf8_acceptRanges), ("unicode/utf8.first", laid_unicode_utf8_first)] }
def EnvOptionsSaid : Prop := envOptionsRow.holds Tryz.pinned (OpenSpec.ofChange envOptionsSpec)

/-- ITS FALSE NEIGHBOUR: 'it returns false'. Refute it at one input. -/
def envOptionsWrong : ChangeSpec := { name := "envOptions", fn := fun _ => fun
  | [d1, d2, d3] => { results := [.lit (.bool false)], args := [d1, d2, d3] }
  | _ => none }
def EnvOptionsWrongFalsely : Prop := envOptionsRow.holds Tryz.pinned (OpenSpec.ofChange envOptionsWrong)

/-- 'jobshelllaw33.EnvLetters': WHATEVER THE INPUT: true; the input reads as it did. -/
def envLettersSpec : ChangeSpec := { name := "envLetters", fn := fun _ => fun
  | [d1, d2, d3] => { results := [.lit (.bool true)], args := [d1, d2, d3] }
  | _ => none }
def envLettersRow : OpenClaim := { program := "ytflfflfodghgpaagreatdoor", sum := "a019201af5cceef4d6e5b41f53aae115d3ae61d45be207c69d4a256593b840bd", func := "jobshell/jobshelllaw33.EnvLetters", spec := "envLetters", inPlace := ["internal/bytealg.IndexByteString", "internal/bytealg.IndexString", "internal/abi.NoEscape", "internal/bytealg.CountString", "internal/bytealg.MakeNoZero"], unfollowed := true, recurses := true, named := ["internal/bytealg.MaxLen", "unicode/utf8.first", "unicode/utf8.acceptRanges"], loops := true, apart := false, laid := [("unicode/utf8.acceptRanges", laid_unicode_utf8_acceptRanges), ("unicode/utf8.first", laid_unicode_utf8_first)] }
def EnvLettersSaid : Prop := envLettersRow.holds Tryz.pinned (OpenSpec.ofChange envLettersSpec)

/-- ITS FALSE NEIGHBOUR: 'it returns false'. Refute it at one input. -/
def envLettersWrong : ChangeSpec := { name := "envLetters", fn := fun _ => fun
  | [d1, d2, d3] => { results := [.lit (.bool false)], args := [d1, d2, d3] }
  | _ => none }
def EnvLettersWrongFalsely : Prop := envLettersRow.holds Tryz.pinned (OpenSpec.ofChange envLettersWrong)

/-- 'jobshelllaw33.EnvSame': WHATEVER THE INPUT: true; the input reads as it did. -/
def envSameSpec : ChangeSpec := { name := "envSame", fn := fun _ => fun
  | [d1, d2] => { results := [.lit (.bool true)], args := [d1, d2] }
  | _ => none }
def envSameRow : OpenClaim := { program := "ytflfflfodghgpaagreatdoor", sum := "a019201af5cceef4d6e5b41f53aae115d3ae61d45be207c69d4a256593b840bd", func := "jobshell/jobshelllaw33.EnvSame", spec := "envSame", inPlace := ["internal/bytealg.IndexByteString", "internal/bytealg.IndexString", "internal/abi.NoEscape", "internal/bytealg.CountString", "internal/bytealg.MakeNoZero"], unfollowed := true, recurses := true, named := ["internal/bytealg.MaxLen", "unicode/utf8.first", "unicode/utf8.acceptRanges"], loops := true, apart := false, laid := [("unicode/utf8.acceptRanges", laid_unicode_utf8_acceptRanges), ("unicode/utf8.first", laid_unicode_utf8_first)] }
def EnvSameSaid : Prop := envSameRow.holds Tryz.pinned (OpenSpec.ofChange envSameSpec)

/-- ITS FALSE NEIGHBOUR: 'it returns false'. Refute it at one input. -/
def envSameWrong : ChangeSpec := { name := "envSame", fn := fun _ => fun
  | [d1, d2] => { results := [.lit (.bool false)], args := [d1, d2] }
  | _ => none }
def EnvSameWrongFalsely : Prop := envSameRow.holds Tryz.pinned (OpenSpec.ofChange envSameWrong)

/-- 'jobshelllaw33.EnvFunctions': WHATEVER THE INPUT: true; the input reads as it did. -/
def envFunctionsSpec : ChangeSpec := { name := "envFunctions", fn := fun _ => fun
  | [d1, d2, d3] => { results := [.lit (.bool true)], args := [d1, d2, d3] }
  | _ => none }
def envFunctionsRow : OpenClaim := { program := "ytflfflfodghgpaagreatdoor", sum := "a019201af5cceef4d6e5b41f53aae115d3ae61d45be207c69d4a256593b840bd", func := "jobshell/jobshelllaw33.EnvFunctions", spec := "envFunctions", inPlace := ["internal/bytealg.IndexByteString", "internal/bytealg.IndexString", "internal/abi.NoEscape", "internal/bytealg.CountString", "internal/bytealg.MakeNoZero"], unfollowed := true, recurses := true, named := ["internal/bytealg.MaxLen", "unicode/utf8.first", "unicode/utf8.acceptRanges"], loops := true, apart := false, laid := [("unicode/utf8.acceptRanges", laid_unicode_utf8_acceptRanges), ("unicode/utf8.first", laid_unicode_utf8_first)] }
def EnvFunctionsSaid : Prop := envFunctionsRow.holds Tryz.pinned (OpenSpec.ofChange envFunctionsSpec)

/-- ITS FALSE NEIGHBOUR: 'it returns false'. Refute it at one input. -/
def envFunctionsWrong : ChangeSpec := { name := "envFunctions", fn := fun _ => fun
  | [d1, d2, d3] => { results := [.lit (.bool false)], args := [d1, d2, d3] }
  | _ => none }
def EnvFunctionsWrongFalsely : Prop := envFunctionsRow.holds Tryz.pinned (OpenSpec.ofChange envFunctionsWrong)

/-- 'jobshelllaw33.EnvDefines': WHATEVER THE INPUT: true; the input reads as it did. -/
def envDefinesSpec : ChangeSpec := { name := "envDefines", fn := fun _ => fun
  | [d1, d2, d3] => { results := [.lit (.bool true)], args := [d1, d2, d3] }
  | _ => none }
def envDefinesRow : OpenClaim := { program := "ytflfflfodghgpaagreatdoor", sum := "a019201af5cceef4d6e5b41f53aae115d3ae61d45be207c69d4a256593b840bd", func := "jobshell/jobshelllaw33.EnvDefines", spec := "envDefines", inPlace := ["internal/bytealg.IndexByteString", "internal/bytealg.IndexString", "internal/abi.NoEscape", "internal/bytealg.CountString", "internal/bytealg.MakeNoZero"], unfollowed := true, recurses := true, named := ["internal/bytealg.MaxLen", "unicode/utf8.first", "unicode/utf8.acceptRanges"], loops := true, apart := false, laid := [("unicode/utf8.acceptRanges", laid_unicode_utf8_acceptRanges), ("unicode/utf8.first", laid_unicode_utf8_first)] }
def EnvDefinesSaid : Prop := envDefinesRow.holds Tryz.pinned (OpenSpec.ofChange envDefinesSpec)

/-- ITS FALSE NEIGHBOUR: 'it returns false'. Refute it at one input. -/
def envDefinesWrong : ChangeSpec := { name := "envDefines", fn := fun _ => fun
  | [d1, d2, d3] => { results := [.lit (.bool false)], args := [d1, d2, d3] }
  | _ => none }
def EnvDefinesWrongFalsely : Prop := envDefinesRow.holds Tryz.pinned (OpenSpec.ofChange envDefinesWrong)

/- THE SECOND FORM. 'bulk': how many values and letters a reading holds, each counted each time it is reached (what is shared counts as often as it is met; a slice's spare places count too). A statement '..UptoSaid' is the law's where the arguments, and the package variables that the reading takes, are together of bulk at most 1048576: NARROWER than '..Said'. Prove '..Said' where nothing that the law and all that it calls make is longer than what came in: it says more and counts as full. Else prove '..UptoSaid'. A law counts once. -/
mutual
def uptoBulk {H : Type} : DataW H → Nat
  | .lit (.string bytes) => bytes.length + 1
  | .lit _ => 1
  | .nil => 1
  | .ptr d => uptoBulk d + 1
  | .slice elems spare => uptoBulkAll elems + uptoBulkAll spare + 1
  | .agg parts => uptoBulkAll parts + 1
  | .iface _ d => uptoBulk d + 1
  | .map entries => uptoBulkEntries entries + 1
  | .held _ => 1
def uptoBulkAll {H : Type} : List (DataW H) → Nat
  | [] => 0
  | d :: r => uptoBulk d + uptoBulkAll r
def uptoBulkEntries {H : Type} : List (Lit × DataW H) → Nat
  | [] => 0
  | x :: r => uptoBulkEntry x + uptoBulkEntries r
def uptoBulkEntry {H : Type} : Lit × DataW H → Nat
  | (.string bytes, d) => bytes.length + uptoBulk d + 1
  | (_, d) => uptoBulk d + 1
 end
def uptoSmall : (H : Type) → List (DataW H) → Bool := fun _ ds => decide (uptoBulkAll ds ≤ 1048576)
def OpenSpec.upto (s : _root_.Go.ChangeSpec) : _root_.Go.OpenSpec := { _root_.Go.OpenSpec.ofChange s with cond := some uptoSmall }

/-- 'jobshelllaw11.SyntaxValids', WHERE WHAT IT READS IS OF BULK AT MOST 1048576: true; the input reads as it did. -/
def syntaxValidsUptoRow : OpenClaim := { program := "ytflfflfodghgpaagreatdoor", sum := "a019201af5cceef4d6e5b41f53aae115d3ae61d45be207c69d4a256593b840bd", func := "jobshell/jobshelllaw11.SyntaxValids", spec := "syntaxValids", inPlace := ["internal/bytealg.IndexByteString", "internal/bytealg.IndexString", "internal/abi.NoEscape"], unfollowed := true, recurses := true, named := ["internal/bytealg.MaxLen", "unicode/utf8.first", "unicode/utf8.acceptRanges"], loops := true, apart := false, laid := [("unicode/utf8.acceptRanges", laid_unicode_utf8_acceptRanges), ("unicode/utf8.first", laid_unicode_utf8_first)], narrowed := true }
def SyntaxValidsUptoSaid : Prop := syntaxValidsUptoRow.holds Tryz.pinned (OpenSpec.upto syntaxValidsSpec)

/-- 'jobshelllaw11.SyntaxLarge', WHERE WHAT IT READS IS OF BULK AT MOST 1048576: true; the input reads as it did. -/
def syntaxLargeUptoRow : OpenClaim := { program := "ytflfflfodghgpaagreatdoor", sum := "a019201af5cceef4d6e5b41f53aae115d3ae61d45be207c69d4a256593b840bd", func := "jobshell/jobshelllaw11.SyntaxLarge", spec := "syntaxLarge", inPlace := ["internal/bytealg.IndexByteString", "internal/bytealg.IndexString", "internal/abi.NoEscape"], unfollowed := true, recurses := true, named := ["internal/bytealg.MaxLen", "unicode/utf8.first", "unicode/utf8.acceptRanges"], apart := false, laid := [("unicode/utf8.acceptRanges", laid_unicode_utf8_acceptRanges), ("unicode/utf8.first", laid_unicode_utf8_first)], narrowed := true }
def SyntaxLargeUptoSaid : Prop := syntaxLargeUptoRow.holds Tryz.pinned (OpenSpec.upto syntaxLargeSpec)

/-- 'jobshelllaw11.SyntaxReplaces', WHERE WHAT IT READS IS OF BULK AT MOST 1048576: true; the input reads as it did. -/
def syntaxReplacesUptoRow : OpenClaim := { program := "ytflfflfodghgpaagreatdoor", sum := "a019201af5cceef4d6e5b41f53aae115d3ae61d45be207c69d4a256593b840bd", func := "jobshell/jobshelllaw11.SyntaxReplaces", spec := "syntaxReplaces", inPlace := ["internal/bytealg.IndexByteString", "internal/bytealg.IndexString", "internal/abi.NoEscape"], unfollowed := true, recurses := true, named := ["internal/bytealg.MaxLen", "unicode/utf8.first", "unicode/utf8.acceptRanges"], loops := true, apart := false, laid := [("unicode/utf8.acceptRanges", laid_unicode_utf8_acceptRanges), ("unicode/utf8.first", laid_unicode_utf8_first)], narrowed := true }
def SyntaxReplacesUptoSaid : Prop := syntaxReplacesUptoRow.holds Tryz.pinned (OpenSpec.upto syntaxReplacesSpec)

/-- 'jobshelllaw11.SyntaxParts', WHERE WHAT IT READS IS OF BULK AT MOST 1048576: true; the input reads as it did. -/
def syntaxPartsUptoRow : OpenClaim := { program := "ytflfflfodghgpaagreatdoor", sum := "a019201af5cceef4d6e5b41f53aae115d3ae61d45be207c69d4a256593b840bd", func := "jobshell/jobshelllaw11.SyntaxParts", spec := "syntaxParts", inPlace := ["internal/bytealg.IndexByteString", "internal/bytealg.IndexString", "internal/abi.NoEscape"], unfollowed := true, recurses := true, named := ["internal/bytealg.MaxLen", "unicode/utf8.first", "unicode/utf8.acceptRanges"], loops := true, apart := false, laid := [("unicode/utf8.acceptRanges", laid_unicode_utf8_acceptRanges), ("unicode/utf8.first", laid_unicode_utf8_first)], narrowed := true }
def SyntaxPartsUptoSaid : Prop := syntaxPartsUptoRow.holds Tryz.pinned (OpenSpec.upto syntaxPartsSpec)

/-- 'jobshelllaw33.EnvNews', WHERE WHAT IT READS IS OF BULK AT MOST 1048576: true; the input reads as it did. -/
def envNewsUptoRow : OpenClaim := { program := "ytflfflfodghgpaagreatdoor", sum := "a019201af5cceef4d6e5b41f53aae115d3ae61d45be207c69d4a256593b840bd", func := "jobshell/jobshelllaw33.EnvNews", spec := "envNews", inPlace := ["internal/bytealg.IndexByteString", "internal/bytealg.IndexString", "internal/abi.NoEscape", "internal/bytealg.CountString", "internal/bytealg.MakeNoZero"], unfollowed := true, recurses := true, named := ["internal/bytealg.MaxLen", "unicode/utf8.first", "unicode/utf8.acceptRanges"], apart := false, laid := [("unicode/utf8.acceptRanges", laid_unicode_utf8_acceptRanges), ("unicode/utf8.first", laid_unicode_utf8_first)], narrowed := true }
def EnvNewsUptoSaid : Prop := envNewsUptoRow.holds Tryz.pinned (OpenSpec.upto envNewsSpec)

/-- 'jobshelllaw33.EnvValid', WHERE WHAT IT READS IS OF BULK AT MOST 1048576: true; the input reads as it did. -/
def envValidUptoRow : OpenClaim := { program := "ytflfflfodghgpaagreatdoor", sum := "a019201af5cceef4d6e5b41f53aae115d3ae61d45be207c69d4a256593b840bd", func := "jobshell/jobshelllaw33.EnvValid", spec := "envValid", inPlace := ["internal/bytealg.IndexByteString", "internal/bytealg.IndexString", "internal/abi.NoEscape", "internal/bytealg.CountString", "internal/bytealg.MakeNoZero"], unfollowed := true, recurses := true, named := ["internal/bytealg.MaxLen", "unicode/utf8.first", "unicode/utf8.acceptRanges"], loops := true, apart := false, laid := [("unicode/utf8.acceptRanges", laid_unicode_utf8_acceptRanges), ("unicode/utf8.first", laid_unicode_utf8_first)], narrowed := true }
def EnvValidUptoSaid : Prop := envValidUptoRow.holds Tryz.pinned (OpenSpec.upto envValidSpec)

/-- 'jobshelllaw33.EnvSubs', WHERE WHAT IT READS IS OF BULK AT MOST 1048576: true; the input reads as it did. -/
def envSubsUptoRow : OpenClaim := { program := "ytflfflfodghgpaagreatdoor", sum := "a019201af5cceef4d6e5b41f53aae115d3ae61d45be207c69d4a256593b840bd", func := "jobshell/jobshelllaw33.EnvSubs", spec := "envSubs", inPlace := ["internal/bytealg.IndexByteString", "internal/bytealg.IndexString", "internal/abi.NoEscape", "internal/bytealg.CountString", "internal/bytealg.MakeNoZero"], unfollowed := true, recurses := true, named := ["internal/bytealg.MaxLen", "unicode/utf8.first", "unicode/utf8.acceptRanges"], loops := true, apart := false, laid := [("unicode/utf8.acceptRanges", laid_unicode_utf8_acceptRanges), ("unicode/utf8.first", laid_unicode_utf8_first)], narrowed := true }
def EnvSubsUptoSaid : Prop := envSubsUptoRow.holds Tryz.pinned (OpenSpec.upto envSubsSpec)

/-- 'jobshelllaw33.EnvOptions', WHERE WHAT IT READS IS OF BULK AT MOST 1048576: true; the input reads as it did. -/
def envOptionsUptoRow : OpenClaim := { program := "ytflfflfodghgpaagreatdoor", sum := "a019201af5cceef4d6e5b41f53aae115d3ae61d45be207c69d4a256593b840bd", func := "jobshell/jobshelllaw33.EnvOptions", spec := "envOptions", inPlace := ["internal/bytealg.IndexByteString", "internal/bytealg.IndexString", "internal/abi.NoEscape", "internal/bytealg.CountString", "internal/bytealg.MakeNoZero"], unfollowed := true, recurses := true, named := ["internal/bytealg.MaxLen", "unicode/utf8.first", "unicode/utf8.acceptRanges"], loops := true, apart := false, laid := [("unicode/utf8.acceptRanges", laid_unicode_utf8_acceptRanges), ("unicode/utf8.first", laid_unicode_utf8_first)], narrowed := true }
def EnvOptionsUptoSaid : Prop := envOptionsUptoRow.holds Tryz.pinned (OpenSpec.upto envOptionsSpec)

/-- 'jobshelllaw33.EnvLetters', WHERE WHAT IT READS IS OF BULK AT MOST 1048576: true; the input reads as it did. -/
def envLettersUptoRow : OpenClaim := { program := "ytflfflfodghgpaagreatdoor", sum := "a019201af5cceef4d6e5b41f53aae115d3ae61d45be207c69d4a256593b840bd", func := "jobshell/jobshelllaw33.EnvLetters", spec := "envLetters", inPlace := ["internal/bytealg.IndexByteString", "internal/bytealg.IndexString", "internal/abi.NoEscape", "internal/bytealg.CountString", "internal/bytealg.MakeNoZero"], unfollowed := true, recurses := true, named := ["internal/bytealg.MaxLen", "unicode/utf8.first", "unicode/utf8.acceptRanges"], loops := true, apart := false, laid := [("unicode/utf8.acceptRanges", laid_unicode_utf8_acceptRanges), ("unicode/utf8.first", laid_unicode_utf8_first)], narrowed := true }
def EnvLettersUptoSaid : Prop := envLettersUptoRow.holds Tryz.pinned (OpenSpec.upto envLettersSpec)

/-- 'jobshelllaw33.EnvSame', WHERE WHAT IT READS IS OF BULK AT MOST 1048576: true; the input reads as it did. -/
def envSameUptoRow : OpenClaim := { program := "ytflfflfodghgpaagreatdoor", sum := "a019201af5cceef4d6e5b41f53aae115d3ae61d45be207c69d4a256593b840bd", func := "jobshell/jobshelllaw33.EnvSame", spec := "envSame", inPlace := ["internal/bytealg.IndexByteString", "internal/bytealg.IndexString", "internal/abi.NoEscape", "internal/bytealg.CountString", "internal/bytealg.MakeNoZero"], unfollowed := true, recurses := true, named := ["internal/bytealg.MaxLen", "unicode/utf8.first", "unicode/utf8.acceptRanges"], loops := true, apart := false, laid := [("unicode/utf8.acceptRanges", laid_unicode_utf8_acceptRanges), ("unicode/utf8.first", laid_unicode_utf8_first)], narrowed := true }
def EnvSameUptoSaid : Prop := envSameUptoRow.holds Tryz.pinned (OpenSpec.upto envSameSpec)

/-- 'jobshelllaw33.EnvFunctions', WHERE WHAT IT READS IS OF BULK AT MOST 1048576: true; the input reads as it did. -/
def envFunctionsUptoRow : OpenClaim := { program := "ytflfflfodghgpaagreatdoor", sum := "a019201af5cceef4d6e5b41f53aae115d3ae61d45be207c69d4a256593b840bd", func := "jobshell/jobshelllaw33.EnvFunctions", spec := "envFunctions", inPlace := ["internal/bytealg.IndexByteString", "internal/bytealg.IndexString", "internal/abi.NoEscape", "internal/bytealg.CountString", "internal/bytealg.MakeNoZero"], unfollowed := true, recurses := true, named := ["internal/bytealg.MaxLen", "unicode/utf8.first", "unicode/utf8.acceptRanges"], loops := true, apart := false, laid := [("unicode/utf8.acceptRanges", laid_unicode_utf8_acceptRanges), ("unicode/utf8.first", laid_unicode_utf8_first)], narrowed := true }
def EnvFunctionsUptoSaid : Prop := envFunctionsUptoRow.holds Tryz.pinned (OpenSpec.upto envFunctionsSpec)

/-- 'jobshelllaw33.EnvDefines', WHERE WHAT IT READS IS OF BULK AT MOST 1048576: true; the input reads as it did. -/
def envDefinesUptoRow : OpenClaim := { program := "ytflfflfodghgpaagreatdoor", sum := "a019201af5cceef4d6e5b41f53aae115d3ae61d45be207c69d4a256593b840bd", func := "jobshell/jobshelllaw33.EnvDefines", spec := "envDefines", inPlace := ["internal/bytealg.IndexByteString", "internal/bytealg.IndexString", "internal/abi.NoEscape", "internal/bytealg.CountString", "internal/bytealg.MakeNoZero"], unfollowed := true, recurses := true, named := ["internal/bytealg.MaxLen", "unicode/utf8.first", "unicode/utf8.acceptRanges"], loops := true, apart := false, laid := [("unicode/utf8.acceptRanges", laid_unicode_utf8_acceptRanges), ("unicode/utf8.first", laid_unicode_utf8_first)], narrowed := true }
def EnvDefinesUptoSaid : Prop := envDefinesUptoRow.holds Tryz.pinned (OpenSpec.upto envDefinesSpec)

end Rows
end Go.Proofs.YtflfflfodghgpaaGreatDoor
