/-
  NARROWER THAN 'FOR EVERY INPUT', by the rows' own cells (each row's printed sentence says how): CountryTells: laid · CountryName: laid · CountryStream: laid · CountryRight: laid · CountryBack: laid · CountryGives: laid · CountryLines: laid · CountryNames: laid · CountrySmall: laid.
  DERIVED. THE GIVEN ROWS OF THIS SEAT. 9 by the template 'for every input the law returns true; each argument reads behind the call as it read before'; 0 by the template 'total and deterministic' (their statements: YteclineblddpbaaGreatDoorRTotals.lean).
  GIVEN WITH THE SEED: the statements are not yours to turn. If you find one false, say at which input.
  Laid BY PROGRAM, IN A SANDBOX (cutbox-rows.mjs): the forced cells as the released guide's own fill.sh prints them over the translation e16978225da9589a… (all of the seat's roots in one cut). By AI agents, Wed Nov 11 2026. No macro, syntax, notation, axiom, sorry.
-/
import Derived.Test.YteclineblddpbaaGreatDoorRChecked
import GoSem.PinnedTables
import GoSem.Claim
import GoSem.ClaimJoined
import GoSem.ClaimMapViews
import Derived.JoinedTies
import Derived.KernelRfl
namespace Go.Proofs.YteclineblddpbaaGreatDoorR
/- THE CELL 'sum', in the pinned program and in every row, IS THE sha256 OF THE DUMP (.gsa) THAT YteclineblddpbaaGreatDoorRProg.lean LOADS. Nothing in Lean hashes anything: it is a label: what it is worth is what the hold of that sum in a sandbox is worth. -/
noncomputable def Tryz.pinned : Pinned := { name := "yteclineblddpbaagreatdoorr", sum := "e16978225da9589a8d20950d100828ae46936d6c37f339048ec4c26951cdc8d6", checked := Tryz.checked }
namespace Rows
def none {H : Type} : Left H := { results := [], args := [] }

/- WHAT THE LISTED PACKAGE-LEVEL VARIABLES READ AS WHEN THE CALL BEGINS. Each datum BY PROGRAM (the guide's laid-datum.mjs) off the statement by which the dump's own 'gosem.cut.vars' lays the variable. In a bare row this is a premise. The card (YteclineblddpbaaGreatDoorRCards.lean) ties it to the program's text. -/
def laid_unicode_utf8_acceptRanges {H : Type} : DataW H := .agg [.agg [.lit (.int .u8 128), .lit (.int .u8 191)], .agg [.lit (.int .u8 160), .lit (.int .u8 191)], .agg [.lit (.int .u8 128), .lit (.int .u8 159)], .agg [.lit (.int .u8 144), .lit (.int .u8 191)], .agg [.lit (.int .u8 128), .lit (.int .u8 143)], .agg [.lit (.int .u8 0), .lit (.int .u8 0)], .agg [.lit (.int .u8 0), .lit (.int .u8 0)], .agg [.lit (.int .u8 0), .lit (.int .u8 0)], .agg [.lit (.int .u8 0), .lit (.int .u8 0)], .agg [.lit (.int .u8 0), .lit (.int .u8 0)], .agg [.lit (.int .u8 0), .lit (.int .u8 0)], .agg [.lit (.int .u8 0), .lit (.int .u8 0)], .agg [.lit (.int .u8 0), .lit (.int .u8 0)], .agg [.lit (.int .u8 0), .lit (.int .u8 0)], .agg [.lit (.int .u8 0), .lit (.int .u8 0)], .agg [.lit (.int .u8 0), .lit (.int .u8 0)]]
/-- One of Go's own tables, pinned by name: the form's constant. -/
def laid_unicode_utf8_first : DataW Unit := Go.Pinned.utf8First

/-- 'letterbaglaw10.CountryTells': WHATEVER THE INPUT: true; the input reads as it did. -/
def countryTellsSpec : ChangeSpec := { name := "countryTells", fn := fun _ => fun
  | [d1, d2] => { results := [.lit (.bool true)], args := [d1, d2] }
  | _ => none }
def countryTellsRow : OpenClaim := { program := "yteclineblddpbaagreatdoorr", sum := "e16978225da9589a8d20950d100828ae46936d6c37f339048ec4c26951cdc8d6", func := "letterbag/letterbaglaw10.CountryTells", spec := "countryTells", inPlace := ["internal/bytealg.IndexByteString", "internal/bytealg.IndexString", "internal/abi.NoEscape", "internal/bytealg.MakeNoZero", "internal/bytealg.CountString"], unfollowed := true, recurses := true, named := ["internal/bytealg.MaxLen", "unicode/utf8.first", "unicode/utf8.acceptRanges"], plainKeys := false, apart := false, laid := [("unicode/utf8.acceptRanges", laid_unicode_utf8_acceptRanges), ("unicode/utf8.first", laid_unicode_utf8_first)] }
def CountryTellsSaid : Prop := countryTellsRow.holds Tryz.pinned (OpenSpec.ofChange countryTellsSpec)

/-- ITS FALSE NEIGHBOUR: 'it returns false'. Refute it at one input. -/
def countryTellsWrong : ChangeSpec := { name := "countryTells", fn := fun _ => fun
  | [d1, d2] => { results := [.lit (.bool false)], args := [d1, d2] }
  | _ => none }
def CountryTellsWrongFalsely : Prop := countryTellsRow.holds Tryz.pinned (OpenSpec.ofChange countryTellsWrong)

/-- 'letterbaglaw10.CountryName': WHATEVER THE INPUT: true; the input reads as it did. -/
def countryNameSpec : ChangeSpec := { name := "countryName", fn := fun _ => fun
  | [d] => { results := [.lit (.bool true)], args := [d] }
  | _ => none }
def countryNameRow : OpenClaim := { program := "yteclineblddpbaagreatdoorr", sum := "e16978225da9589a8d20950d100828ae46936d6c37f339048ec4c26951cdc8d6", func := "letterbag/letterbaglaw10.CountryName", spec := "countryName", inPlace := ["internal/abi.NoEscape", "internal/bytealg.MakeNoZero", "internal/bytealg.IndexByteString", "internal/bytealg.IndexString", "internal/bytealg.CountString"], unfollowed := true, recurses := true, named := ["unicode/utf8.first", "unicode/utf8.acceptRanges", "internal/bytealg.MaxLen"], plainKeys := false, apart := false, laid := [("unicode/utf8.acceptRanges", laid_unicode_utf8_acceptRanges), ("unicode/utf8.first", laid_unicode_utf8_first)] }
def CountryNameSaid : Prop := countryNameRow.holds Tryz.pinned (OpenSpec.ofChange countryNameSpec)

/-- ITS FALSE NEIGHBOUR: 'it returns false'. Refute it at one input. -/
def countryNameWrong : ChangeSpec := { name := "countryName", fn := fun _ => fun
  | [d] => { results := [.lit (.bool false)], args := [d] }
  | _ => none }
def CountryNameWrongFalsely : Prop := countryNameRow.holds Tryz.pinned (OpenSpec.ofChange countryNameWrong)

/-- 'letterbaglaw10.CountryStream': WHATEVER THE INPUT: true; the input reads as it did. -/
def countryStreamSpec : ChangeSpec := { name := "countryStream", fn := fun _ => fun
  | [d] => { results := [.lit (.bool true)], args := [d] }
  | _ => none }
def countryStreamRow : OpenClaim := { program := "yteclineblddpbaagreatdoorr", sum := "e16978225da9589a8d20950d100828ae46936d6c37f339048ec4c26951cdc8d6", func := "letterbag/letterbaglaw10.CountryStream", spec := "countryStream", inPlace := ["internal/bytealg.IndexByteString", "internal/bytealg.IndexString", "internal/abi.NoEscape", "internal/bytealg.MakeNoZero", "internal/bytealg.CountString"], unfollowed := true, recurses := true, named := ["unicode/utf8.first", "unicode/utf8.acceptRanges", "internal/bytealg.MaxLen"], plainKeys := false, apart := false, laid := [("unicode/utf8.acceptRanges", laid_unicode_utf8_acceptRanges), ("unicode/utf8.first", laid_unicode_utf8_first)] }
def CountryStreamSaid : Prop := countryStreamRow.holds Tryz.pinned (OpenSpec.ofChange countryStreamSpec)

/-- ITS FALSE NEIGHBOUR: 'it returns false'. Refute it at one input. -/
def countryStreamWrong : ChangeSpec := { name := "countryStream", fn := fun _ => fun
  | [d] => { results := [.lit (.bool false)], args := [d] }
  | _ => none }
def CountryStreamWrongFalsely : Prop := countryStreamRow.holds Tryz.pinned (OpenSpec.ofChange countryStreamWrong)

/-- 'letterbaglaw10.CountryRight': WHATEVER THE INPUT: true; the input reads as it did. -/
def countryRightSpec : ChangeSpec := { name := "countryRight", fn := fun _ => fun
  | [d] => { results := [.lit (.bool true)], args := [d] }
  | _ => none }
def countryRightRow : OpenClaim := { program := "yteclineblddpbaagreatdoorr", sum := "e16978225da9589a8d20950d100828ae46936d6c37f339048ec4c26951cdc8d6", func := "letterbag/letterbaglaw10.CountryRight", spec := "countryRight", inPlace := ["internal/bytealg.IndexByteString", "internal/bytealg.IndexString", "internal/abi.NoEscape", "internal/bytealg.MakeNoZero", "internal/bytealg.CountString"], unfollowed := true, recurses := true, named := ["unicode/utf8.first", "unicode/utf8.acceptRanges", "internal/bytealg.MaxLen"], plainKeys := false, apart := false, laid := [("unicode/utf8.acceptRanges", laid_unicode_utf8_acceptRanges), ("unicode/utf8.first", laid_unicode_utf8_first)] }
def CountryRightSaid : Prop := countryRightRow.holds Tryz.pinned (OpenSpec.ofChange countryRightSpec)

/-- ITS FALSE NEIGHBOUR: 'it returns false'. Refute it at one input. -/
def countryRightWrong : ChangeSpec := { name := "countryRight", fn := fun _ => fun
  | [d] => { results := [.lit (.bool false)], args := [d] }
  | _ => none }
def CountryRightWrongFalsely : Prop := countryRightRow.holds Tryz.pinned (OpenSpec.ofChange countryRightWrong)

/-- 'letterbaglaw10.CountryBack': WHATEVER THE INPUT: true; the input reads as it did. -/
def countryBackSpec : ChangeSpec := { name := "countryBack", fn := fun _ => fun
  | [d] => { results := [.lit (.bool true)], args := [d] }
  | _ => none }
def countryBackRow : OpenClaim := { program := "yteclineblddpbaagreatdoorr", sum := "e16978225da9589a8d20950d100828ae46936d6c37f339048ec4c26951cdc8d6", func := "letterbag/letterbaglaw10.CountryBack", spec := "countryBack", inPlace := ["internal/bytealg.IndexByteString", "internal/bytealg.IndexString", "internal/abi.NoEscape", "internal/bytealg.MakeNoZero", "internal/bytealg.CountString"], unfollowed := true, recurses := true, named := ["unicode/utf8.first", "unicode/utf8.acceptRanges", "internal/bytealg.MaxLen"], plainKeys := false, apart := false, laid := [("unicode/utf8.acceptRanges", laid_unicode_utf8_acceptRanges), ("unicode/utf8.first", laid_unicode_utf8_first)] }
def CountryBackSaid : Prop := countryBackRow.holds Tryz.pinned (OpenSpec.ofChange countryBackSpec)

/-- ITS FALSE NEIGHBOUR: 'it returns false'. Refute it at one input. -/
def countryBackWrong : ChangeSpec := { name := "countryBack", fn := fun _ => fun
  | [d] => { results := [.lit (.bool false)], args := [d] }
  | _ => none }
def CountryBackWrongFalsely : Prop := countryBackRow.holds Tryz.pinned (OpenSpec.ofChange countryBackWrong)

/-- 'letterbaglaw10.CountryGives': WHATEVER THE INPUT: true; the input reads as it did. -/
def countryGivesSpec : ChangeSpec := { name := "countryGives", fn := fun _ => fun
  | [d1, d2] => { results := [.lit (.bool true)], args := [d1, d2] }
  | _ => none }
def countryGivesRow : OpenClaim := { program := "yteclineblddpbaagreatdoorr", sum := "e16978225da9589a8d20950d100828ae46936d6c37f339048ec4c26951cdc8d6", func := "letterbag/letterbaglaw10.CountryGives", spec := "countryGives", inPlace := ["internal/bytealg.IndexByteString", "internal/bytealg.IndexString", "internal/abi.NoEscape", "internal/bytealg.MakeNoZero", "internal/bytealg.CountString"], unfollowed := true, recurses := true, named := ["unicode/utf8.first", "unicode/utf8.acceptRanges", "internal/bytealg.MaxLen"], plainKeys := false, apart := false, laid := [("unicode/utf8.acceptRanges", laid_unicode_utf8_acceptRanges), ("unicode/utf8.first", laid_unicode_utf8_first)] }
def CountryGivesSaid : Prop := countryGivesRow.holds Tryz.pinned (OpenSpec.ofChange countryGivesSpec)

/-- ITS FALSE NEIGHBOUR: 'it returns false'. Refute it at one input. -/
def countryGivesWrong : ChangeSpec := { name := "countryGives", fn := fun _ => fun
  | [d1, d2] => { results := [.lit (.bool false)], args := [d1, d2] }
  | _ => none }
def CountryGivesWrongFalsely : Prop := countryGivesRow.holds Tryz.pinned (OpenSpec.ofChange countryGivesWrong)

/-- 'letterbaglaw10.CountryLines': WHATEVER THE INPUT: true; the input reads as it did. -/
def countryLinesSpec : ChangeSpec := { name := "countryLines", fn := fun _ => fun
  | [d] => { results := [.lit (.bool true)], args := [d] }
  | _ => none }
def countryLinesRow : OpenClaim := { program := "yteclineblddpbaagreatdoorr", sum := "e16978225da9589a8d20950d100828ae46936d6c37f339048ec4c26951cdc8d6", func := "letterbag/letterbaglaw10.CountryLines", spec := "countryLines", inPlace := ["internal/bytealg.IndexByteString", "internal/bytealg.IndexString", "internal/abi.NoEscape", "internal/bytealg.MakeNoZero", "internal/bytealg.CountString"], unfollowed := true, recurses := true, named := ["unicode/utf8.first", "unicode/utf8.acceptRanges", "internal/bytealg.MaxLen"], plainKeys := false, apart := false, laid := [("unicode/utf8.acceptRanges", laid_unicode_utf8_acceptRanges), ("unicode/utf8.first", laid_unicode_utf8_first)] }
def CountryLinesSaid : Prop := countryLinesRow.holds Tryz.pinned (OpenSpec.ofChange countryLinesSpec)

/-- ITS FALSE NEIGHBOUR: 'it returns false'. Refute it at one input. -/
def countryLinesWrong : ChangeSpec := { name := "countryLines", fn := fun _ => fun
  | [d] => { results := [.lit (.bool false)], args := [d] }
  | _ => none }
def CountryLinesWrongFalsely : Prop := countryLinesRow.holds Tryz.pinned (OpenSpec.ofChange countryLinesWrong)

/-- 'letterbaglaw10.CountryNames': WHATEVER THE INPUT: true; the input reads as it did. -/
def countryNamesSpec : ChangeSpec := { name := "countryNames", fn := fun _ => fun
  | [d1, d2] => { results := [.lit (.bool true)], args := [d1, d2] }
  | _ => none }
def countryNamesRow : OpenClaim := { program := "yteclineblddpbaagreatdoorr", sum := "e16978225da9589a8d20950d100828ae46936d6c37f339048ec4c26951cdc8d6", func := "letterbag/letterbaglaw10.CountryNames", spec := "countryNames", inPlace := ["internal/bytealg.IndexByteString", "internal/bytealg.IndexString", "internal/abi.NoEscape", "internal/bytealg.MakeNoZero", "internal/bytealg.CountString"], unfollowed := true, recurses := true, named := ["unicode/utf8.first", "unicode/utf8.acceptRanges", "internal/bytealg.MaxLen"], plainKeys := false, apart := false, laid := [("unicode/utf8.acceptRanges", laid_unicode_utf8_acceptRanges), ("unicode/utf8.first", laid_unicode_utf8_first)] }
def CountryNamesSaid : Prop := countryNamesRow.holds Tryz.pinned (OpenSpec.ofChange countryNamesSpec)

/-- ITS FALSE NEIGHBOUR: 'it returns false'. Refute it at one input. -/
def countryNamesWrong : ChangeSpec := { name := "countryNames", fn := fun _ => fun
  | [d1, d2] => { results := [.lit (.bool false)], args := [d1, d2] }
  | _ => none }
def CountryNamesWrongFalsely : Prop := countryNamesRow.holds Tryz.pinned (OpenSpec.ofChange countryNamesWrong)

/-- 'letterbaglaw10.CountrySmall': WHATEVER THE INPUT: true; the input reads as it did. -/
def countrySmallSpec : ChangeSpec := { name := "countrySmall", fn := fun _ => fun
  | [] => { results := [.lit (.bool true)], args := [] }
  | _ => none }
def countrySmallRow : OpenClaim := { program := "yteclineblddpbaagreatdoorr", sum := "e16978225da9589a8d20950d100828ae46936d6c37f339048ec4c26951cdc8d6", func := "letterbag/letterbaglaw10.CountrySmall", spec := "countrySmall", inPlace := ["internal/bytealg.IndexByteString", "internal/bytealg.IndexString", "internal/abi.NoEscape", "internal/bytealg.MakeNoZero", "internal/bytealg.CountString"], unfollowed := true, recurses := true, named := ["unicode/utf8.first", "unicode/utf8.acceptRanges", "internal/bytealg.MaxLen"], plainKeys := false, apart := false, laid := [("unicode/utf8.acceptRanges", laid_unicode_utf8_acceptRanges), ("unicode/utf8.first", laid_unicode_utf8_first)] }
def CountrySmallSaid : Prop := countrySmallRow.holds Tryz.pinned (OpenSpec.ofChange countrySmallSpec)

/-- ITS FALSE NEIGHBOUR: 'it returns false'. Refute it at one input. -/
def countrySmallWrong : ChangeSpec := { name := "countrySmall", fn := fun _ => fun
  | [] => { results := [.lit (.bool false)], args := [] }
  | _ => none }
def CountrySmallWrongFalsely : Prop := countrySmallRow.holds Tryz.pinned (OpenSpec.ofChange countrySmallWrong)

/- THE SECOND FORM. 'bulk': how many values and letters a reading holds, each counted each time it is reached (what is shared counts as often as it is met; a slice's spare places count too). A statement '..UptoSaid' is the law's where the arguments, and the package variables that the reading takes, are together of bulk at most 1048576: NARROWER than '..Said'. Prove '..Said' where nothing that the law and all that it calls make is longer than what came in: it says more and counts as full. Else prove '..UptoSaid'. A law counts once. -/
mutual
def uptoBulk {H : Type} : DataW H → Nat
  | .lit (.string bytes) => bytes.length + 1
  | .lit _ => 1
  | .nil => 1
  | .ptr d => uptoBulk d + 1
  | .slice elems spare => uptoBulkAll elems + uptoBulkAll spare + 1
  | .agg parts => uptoBulkAll parts + 1
  | .iface _ d => uptoBulk d + 1
  | .map entries => uptoBulkEntries entries + 1
  | .held _ => 1
def uptoBulkAll {H : Type} : List (DataW H) → Nat
  | [] => 0
  | d :: r => uptoBulk d + uptoBulkAll r
def uptoBulkEntries {H : Type} : List (Lit × DataW H) → Nat
  | [] => 0
  | x :: r => uptoBulkEntry x + uptoBulkEntries r
def uptoBulkEntry {H : Type} : Lit × DataW H → Nat
  | (.string bytes, d) => bytes.length + uptoBulk d + 1
  | (_, d) => uptoBulk d + 1
 end
def uptoSmall : (H : Type) → List (DataW H) → Bool := fun _ ds => decide (uptoBulkAll ds ≤ 1048576)
def OpenSpec.upto (s : _root_.Go.ChangeSpec) : _root_.Go.OpenSpec := { _root_.Go.OpenSpec.ofChange s with cond := some uptoSmall }

/-- 'letterbaglaw10.CountryTells', WHERE WHAT IT READS IS OF BULK AT MOST 1048576: true; the input reads as it did. -/
def countryTellsUptoRow : OpenClaim := { program := "yteclineblddpbaagreatdoorr", sum := "e16978225da9589a8d20950d100828ae46936d6c37f339048ec4c26951cdc8d6", func := "letterbag/letterbaglaw10.CountryTells", spec := "countryTells", inPlace := ["internal/bytealg.IndexByteString", "internal/bytealg.IndexString", "internal/abi.NoEscape", "internal/bytealg.MakeNoZero", "internal/bytealg.CountString"], unfollowed := true, recurses := true, named := ["internal/bytealg.MaxLen", "unicode/utf8.first", "unicode/utf8.acceptRanges"], plainKeys := false, apart := false, laid := [("unicode/utf8.acceptRanges", laid_unicode_utf8_acceptRanges), ("unicode/utf8.first", laid_unicode_utf8_first)], narrowed := true }
def CountryTellsUptoSaid : Prop := countryTellsUptoRow.holds Tryz.pinned (OpenSpec.upto countryTellsSpec)

/-- 'letterbaglaw10.CountryName', WHERE WHAT IT READS IS OF BULK AT MOST 1048576: true; the input reads as it did. -/
def countryNameUptoRow : OpenClaim := { program := "yteclineblddpbaagreatdoorr", sum := "e16978225da9589a8d20950d100828ae46936d6c37f339048ec4c26951cdc8d6", func := "letterbag/letterbaglaw10.CountryName", spec := "countryName", inPlace := ["internal/abi.NoEscape", "internal/bytealg.MakeNoZero", "internal/bytealg.IndexByteString", "internal/bytealg.IndexString", "internal/bytealg.CountString"], unfollowed := true, recurses := true, named := ["unicode/utf8.first", "unicode/utf8.acceptRanges", "internal/bytealg.MaxLen"], plainKeys := false, apart := false, laid := [("unicode/utf8.acceptRanges", laid_unicode_utf8_acceptRanges), ("unicode/utf8.first", laid_unicode_utf8_first)], narrowed := true }
def CountryNameUptoSaid : Prop := countryNameUptoRow.holds Tryz.pinned (OpenSpec.upto countryNameSpec)

/-- 'letterbaglaw10.CountryStream', WHERE WHAT IT READS IS OF BULK AT MOST 1048576: true; the input reads as it did. -/
def countryStreamUptoRow : OpenClaim := { program := "yteclineblddpbaagreatdoorr", sum := "e16978225da9589a8d20950d100828ae46936d6c37f339048ec4c26951cdc8d6", func := "letterbag/letterbaglaw10.CountryStream", spec := "countryStream", inPlace := ["internal/bytealg.IndexByteString", "internal/bytealg.IndexString", "internal/abi.NoEscape", "internal/bytealg.MakeNoZero", "internal/bytealg.CountString"], unfollowed := true, recurses := true, named := ["unicode/utf8.first", "unicode/utf8.acceptRanges", "internal/bytealg.MaxLen"], plainKeys := false, apart := false, laid := [("unicode/utf8.acceptRanges", laid_unicode_utf8_acceptRanges), ("unicode/utf8.first", laid_unicode_utf8_first)], narrowed := true }
def CountryStreamUptoSaid : Prop := countryStreamUptoRow.holds Tryz.pinned (OpenSpec.upto countryStreamSpec)

/-- 'letterbaglaw10.CountryRight', WHERE WHAT IT READS IS OF BULK AT MOST 1048576: true; the input reads as it did. -/
def countryRightUptoRow : OpenClaim := { program := "yteclineblddpbaagreatdoorr", sum := "e16978225da9589a8d20950d100828ae46936d6c37f339048ec4c26951cdc8d6", func := "letterbag/letterbaglaw10.CountryRight", spec := "countryRight", inPlace := ["internal/bytealg.IndexByteString", "internal/bytealg.IndexString", "internal/abi.NoEscape", "internal/bytealg.MakeNoZero", "internal/bytealg.CountString"], unfollowed := true, recurses := true, named := ["unicode/utf8.first", "unicode/utf8.acceptRanges", "internal/bytealg.MaxLen"], plainKeys := false, apart := false, laid := [("unicode/utf8.acceptRanges", laid_unicode_utf8_acceptRanges), ("unicode/utf8.first", laid_unicode_utf8_first)], narrowed := true }
def CountryRightUptoSaid : Prop := countryRightUptoRow.holds Tryz.pinned (OpenSpec.upto countryRightSpec)

/-- 'letterbaglaw10.CountryBack', WHERE WHAT IT READS IS OF BULK AT MOST 1048576: true; the input reads as it did. -/
def countryBackUptoRow : OpenClaim := { program := "yteclineblddpbaagreatdoorr", sum := "e16978225da9589a8d20950d100828ae46936d6c37f339048ec4c26951cdc8d6", func := "letterbag/letterbaglaw10.CountryBack", spec := "countryBack", inPlace := ["internal/bytealg.IndexByteString", "internal/bytealg.IndexString", "internal/abi.NoEscape", "internal/bytealg.MakeNoZero", "internal/bytealg.CountString"], unfollowed := true, recurses := true, named := ["unicode/utf8.first", "unicode/utf8.acceptRanges", "internal/bytealg.MaxLen"], plainKeys := false, apart := false, laid := [("unicode/utf8.acceptRanges", laid_unicode_utf8_acceptRanges), ("unicode/utf8.first", laid_unicode_utf8_first)], narrowed := true }
def CountryBackUptoSaid : Prop := countryBackUptoRow.holds Tryz.pinned (OpenSpec.upto countryBackSpec)

/-- 'letterbaglaw10.CountryGives', WHERE WHAT IT READS IS OF BULK AT MOST 1048576: true; the input reads as it did. -/
def countryGivesUptoRow : OpenClaim := { program := "yteclineblddpbaagreatdoorr", sum := "e16978225da9589a8d20950d100828ae46936d6c37f339048ec4c26951cdc8d6", func := "letterbag/letterbaglaw10.CountryGives", spec := "countryGives", inPlace := ["internal/bytealg.IndexByteString", "internal/bytealg.IndexString", "internal/abi.NoEscape", "internal/bytealg.MakeNoZero", "internal/bytealg.CountString"], unfollowed := true, recurses := true, named := ["unicode/utf8.first", "unicode/utf8.acceptRanges", "internal/bytealg.MaxLen"], plainKeys := false, apart := false, laid := [("unicode/utf8.acceptRanges", laid_unicode_utf8_acceptRanges), ("unicode/utf8.first", laid_unicode_utf8_first)], narrowed := true }
def CountryGivesUptoSaid : Prop := countryGivesUptoRow.holds Tryz.pinned (OpenSpec.upto countryGivesSpec)

/-- 'letterbaglaw10.CountryLines', WHERE WHAT IT READS IS OF BULK AT MOST 1048576: true; the input reads as it did. -/
def countryLinesUptoRow : OpenClaim := { program := "yteclineblddpbaagreatdoorr", sum := "e16978225da9589a8d20950d100828ae46936d6c37f339048ec4c26951cdc8d6", func := "letterbag/letterbaglaw10.CountryLines", spec := "countryLines", inPlace := ["internal/bytealg.IndexByteString", "internal/bytealg.IndexString", "internal/abi.NoEscape", "internal/bytealg.MakeNoZero", "internal/bytealg.CountString"], unfollowed := true, recurses := true, named := ["unicode/utf8.first", "unicode/utf8.acceptRanges", "internal/bytealg.MaxLen"], plainKeys := false, apart := false, laid := [("unicode/utf8.acceptRanges", laid_unicode_utf8_acceptRanges), ("unicode/utf8.first", laid_unicode_utf8_first)], narrowed := true }
def CountryLinesUptoSaid : Prop := countryLinesUptoRow.holds Tryz.pinned (OpenSpec.upto countryLinesSpec)

/-- 'letterbaglaw10.CountryNames', WHERE WHAT IT READS IS OF BULK AT MOST 1048576: true; the input reads as it did. -/
def countryNamesUptoRow : OpenClaim := { program := "yteclineblddpbaagreatdoorr", sum := "e16978225da9589a8d20950d100828ae46936d6c37f339048ec4c26951cdc8d6", func := "letterbag/letterbaglaw10.CountryNames", spec := "countryNames", inPlace := ["internal/bytealg.IndexByteString", "internal/bytealg.IndexString", "internal/abi.NoEscape", "internal/bytealg.MakeNoZero", "internal/bytealg.CountString"], unfollowed := true, recurses := true, named := ["unicode/utf8.first", "unicode/utf8.acceptRanges", "internal/bytealg.MaxLen"], plainKeys := false, apart := false, laid := [("unicode/utf8.acceptRanges", laid_unicode_utf8_acceptRanges), ("unicode/utf8.first", laid_unicode_utf8_first)], narrowed := true }
def CountryNamesUptoSaid : Prop := countryNamesUptoRow.holds Tryz.pinned (OpenSpec.upto countryNamesSpec)

/-- 'letterbaglaw10.CountrySmall', WHERE WHAT IT READS IS OF BULK AT MOST 1048576: true; the input reads as it did. -/
def countrySmallUptoRow : OpenClaim := { program := "yteclineblddpbaagreatdoorr", sum := "e16978225da9589a8d20950d100828ae46936d6c37f339048ec4c26951cdc8d6", func := "letterbag/letterbaglaw10.CountrySmall", spec := "countrySmall", inPlace := ["internal/bytealg.IndexByteString", "internal/bytealg.IndexString", "internal/abi.NoEscape", "internal/bytealg.MakeNoZero", "internal/bytealg.CountString"], unfollowed := true, recurses := true, named := ["unicode/utf8.first", "unicode/utf8.acceptRanges", "internal/bytealg.MaxLen"], plainKeys := false, apart := false, laid := [("unicode/utf8.acceptRanges", laid_unicode_utf8_acceptRanges), ("unicode/utf8.first", laid_unicode_utf8_first)], narrowed := true }
def CountrySmallUptoSaid : Prop := countrySmallUptoRow.holds Tryz.pinned (OpenSpec.upto countrySmallSpec)

end Rows
end Go.Proofs.YteclineblddpbaaGreatDoorR
