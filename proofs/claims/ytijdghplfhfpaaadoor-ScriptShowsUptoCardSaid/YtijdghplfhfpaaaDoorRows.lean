/-
  NARROWER THAN 'FOR EVERY INPUT', by the rows' own cells (each row's printed sentence says how): BoxChecks: laid · BoxSizes: laid · BoxAlls: laid · BoxApplies: laid · BookFolds: laid · LmtpLines: laid · ScriptChecks: loops, laid · ScriptShows: loops, laid · ScriptParses: laid · RuleChecks: loops, laid.
  DERIVED. THE GIVEN ROWS OF THIS SEAT. 10 by the template 'for every input the law returns true; each argument reads behind the call as it read before'; 0 by the template 'total and deterministic' (their statements: YtijdghplfhfpaaaDoorTotals.lean).
  GIVEN WITH THE SEED: the statements are not yours to turn. If you find one false, say at which input.
  Laid BY PROGRAM, IN A SANDBOX (cutbox-rows.mjs): the forced cells as the released guide's own fill.sh prints them over the translation 7b00f308e5c6fe81… (all of the seat's roots in one cut). By AI agents, Wed Nov 11 2026. No macro, syntax, notation, axiom, sorry.
-/
import Derived.Test.YtijdghplfhfpaaaDoorChecked
import GoSem.PinnedTables
import GoSem.Claim
import GoSem.ClaimJoined
import GoSem.ClaimMapViews
import Derived.JoinedTies
import Derived.KernelRfl
namespace Go.Proofs.YtijdghplfhfpaaaDoor
/- THE CELL 'sum', in the pinned program and in every row, IS THE sha256 OF THE DUMP (.gsa) THAT YtijdghplfhfpaaaDoorProg.lean LOADS. Nothing in Lean hashes anything: it is a label: what it is worth is what the hold of that sum in a sandbox is worth. -/
noncomputable def Tryd.pinned : Pinned := { name := "ytijdghplfhfpaaadoor", sum := "7b00f308e5c6fe812ef4539f2d9f093bc06e66ebecf81d81fc6eb566bd0f198a", checked := Tryd.checked }
namespace Rows
def none {H : Type} : Left H := { results := [], args := [] }

/- WHAT THE LISTED PACKAGE-LEVEL VARIABLES READ AS WHEN THE CALL BEGINS. Each datum BY PROGRAM (the guide's laid-datum.mjs) off the statement by which the dump's own 'gosem.cut.vars' lays the variable. In a bare row this is a premise. The card (YtijdghplfhfpaaaDoorCards.lean) ties it to the program's text. -/
def laid_unicode_utf8_acceptRanges {H : Type} : DataW H := .agg [.agg [.lit (.int .u8 128), .lit (.int .u8 191)], .agg [.lit (.int .u8 160), .lit (.int .u8 191)], .agg [.lit (.int .u8 128), .lit (.int .u8 159)], .agg [.lit (.int .u8 144), .lit (.int .u8 191)], .agg [.lit (.int .u8 128), .lit (.int .u8 143)], .agg [.lit (.int .u8 0), .lit (.int .u8 0)], .agg [.lit (.int .u8 0), .lit (.int .u8 0)], .agg [.lit (.int .u8 0), .lit (.int .u8 0)], .agg [.lit (.int .u8 0), .lit (.int .u8 0)], .agg [.lit (.int .u8 0), .lit (.int .u8 0)], .agg [.lit (.int .u8 0), .lit (.int .u8 0)], .agg [.lit (.int .u8 0), .lit (.int .u8 0)], .agg [.lit (.int .u8 0), .lit (.int .u8 0)], .agg [.lit (.int .u8 0), .lit (.int .u8 0)], .agg [.lit (.int .u8 0), .lit (.int .u8 0)], .agg [.lit (.int .u8 0), .lit (.int .u8 0)]]
/-- One of Go's own tables, pinned by name: the form's constant. -/
def laid_unicode_utf8_first : DataW Unit := Go.Pinned.utf8First
def laid_postroom_script_commands {H : Type} : DataW H := .agg [.lit (.string []), .lit (.string [114, 101, 113, 117, 105, 114, 101]), .lit (.string [105, 102]), .lit (.string [107, 101, 101, 112]), .lit (.string [100, 105, 115, 99, 97, 114, 100]), .lit (.string [102, 105, 108, 101, 105, 110, 116, 111]), .lit (.string [114, 101, 100, 105, 114, 101, 99, 116]), .lit (.string [114, 101, 106, 101, 99, 116]), .lit (.string [115, 101, 116, 102, 108, 97, 103]), .lit (.string [97, 100, 100, 102, 108, 97, 103]), .lit (.string [115, 116, 111, 112])]
def laid_postroom_script_tests {H : Type} : DataW H := .agg [.lit (.string []), .lit (.string [116, 114, 117, 101]), .lit (.string [102, 97, 108, 115, 101]), .lit (.string [110, 111, 116]), .lit (.string [97, 108, 108, 111, 102]), .lit (.string [97, 110, 121, 111, 102]), .lit (.string [104, 101, 97, 100, 101, 114]), .lit (.string [97, 100, 100, 114, 101, 115, 115]), .lit (.string [101, 110, 118, 101, 108, 111, 112, 101]), .lit (.string [101, 120, 105, 115, 116, 115]), .lit (.string [115, 105, 122, 101])]
def laid_postroom_script_matches {H : Type} : DataW H := .agg [.lit (.string []), .lit (.string [105, 115]), .lit (.string [99, 111, 110, 116, 97, 105, 110, 115]), .lit (.string [109, 97, 116, 99, 104, 101, 115])]
def laid_postroom_script_parts {H : Type} : DataW H := .agg [.lit (.string []), .lit (.string [97, 108, 108]), .lit (.string [108, 111, 99, 97, 108, 112, 97, 114, 116]), .lit (.string [100, 111, 109, 97, 105, 110])]
def laid_postroom_rule_extensions {H : Type} : DataW H := .agg [.lit (.string [102, 105, 108, 101, 105, 110, 116, 111]), .lit (.string [114, 101, 106, 101, 99, 116]), .lit (.string [101, 110, 118, 101, 108, 111, 112, 101]), .lit (.string [105, 109, 97, 112, 52, 102, 108, 97, 103, 115])]
def laid_postroom_rule_names {H : Type} : DataW H := .agg [.lit (.string [92, 83, 101, 101, 110]), .lit (.string [92, 65, 110, 115, 119, 101, 114, 101, 100]), .lit (.string [92, 70, 108, 97, 103, 103, 101, 100]), .lit (.string [92, 68, 101, 108, 101, 116, 101, 100]), .lit (.string [92, 68, 114, 97, 102, 116])]

/-- 'postroomlaw.BoxChecks': WHATEVER THE INPUT: true; the input reads as it did. -/
def boxChecksSpec : ChangeSpec := { name := "boxChecks", fn := fun _ => fun
  | [d] => { results := [.lit (.bool true)], args := [d] }
  | _ => none }
def boxChecksRow : OpenClaim := { program := "ytijdghplfhfpaaadoor", sum := "7b00f308e5c6fe812ef4539f2d9f093bc06e66ebecf81d81fc6eb566bd0f198a", func := "postroom/postroomlaw.BoxChecks", spec := "boxChecks", inPlace := ["internal/bytealg.IndexByteString", "internal/bytealg.CountString", "internal/bytealg.IndexString"], unfollowed := true, recurses := true, named := ["unicode/utf8.first", "unicode/utf8.acceptRanges", "internal/bytealg.MaxLen"], apart := false, laid := [("unicode/utf8.acceptRanges", laid_unicode_utf8_acceptRanges), ("unicode/utf8.first", laid_unicode_utf8_first)] }
def BoxChecksSaid : Prop := boxChecksRow.holds Tryd.pinned (OpenSpec.ofChange boxChecksSpec)

/-- ITS FALSE NEIGHBOUR: 'it returns false'. Refute it at one input. -/
def boxChecksWrong : ChangeSpec := { name := "boxChecks", fn := fun _ => fun
  | [d] => { results := [.lit (.bool false)], args := [d] }
  | _ => none }
def BoxChecksWrongFalsely : Prop := boxChecksRow.holds Tryd.pinned (OpenSpec.ofChange boxChecksWrong)

/-- 'postroomlaw.BoxSizes': WHATEVER THE INPUT: true; the input reads as it did. -/
def boxSizesSpec : ChangeSpec := { name := "boxSizes", fn := fun _ => fun
  | [d] => { results := [.lit (.bool true)], args := [d] }
  | _ => none }
def boxSizesRow : OpenClaim := { program := "ytijdghplfhfpaaadoor", sum := "7b00f308e5c6fe812ef4539f2d9f093bc06e66ebecf81d81fc6eb566bd0f198a", func := "postroom/postroomlaw.BoxSizes", spec := "boxSizes", inPlace := ["internal/bytealg.IndexByteString", "internal/bytealg.CountString", "internal/bytealg.IndexString"], unfollowed := true, recurses := true, named := ["unicode/utf8.first", "unicode/utf8.acceptRanges", "internal/bytealg.MaxLen"], apart := false, laid := [("unicode/utf8.acceptRanges", laid_unicode_utf8_acceptRanges), ("unicode/utf8.first", laid_unicode_utf8_first)] }
def BoxSizesSaid : Prop := boxSizesRow.holds Tryd.pinned (OpenSpec.ofChange boxSizesSpec)

/-- ITS FALSE NEIGHBOUR: 'it returns false'. Refute it at one input. -/
def boxSizesWrong : ChangeSpec := { name := "boxSizes", fn := fun _ => fun
  | [d] => { results := [.lit (.bool false)], args := [d] }
  | _ => none }
def BoxSizesWrongFalsely : Prop := boxSizesRow.holds Tryd.pinned (OpenSpec.ofChange boxSizesWrong)

/-- 'postroomlaw.BoxAlls': WHATEVER THE INPUT: true; the input reads as it did. -/
def boxAllsSpec : ChangeSpec := { name := "boxAlls", fn := fun _ => fun
  | [d1, d2] => { results := [.lit (.bool true)], args := [d1, d2] }
  | _ => none }
def boxAllsRow : OpenClaim := { program := "ytijdghplfhfpaaadoor", sum := "7b00f308e5c6fe812ef4539f2d9f093bc06e66ebecf81d81fc6eb566bd0f198a", func := "postroom/postroomlaw.BoxAlls", spec := "boxAlls", inPlace := ["internal/bytealg.IndexByteString", "internal/bytealg.CountString", "internal/bytealg.IndexString"], unfollowed := true, recurses := true, named := ["unicode/utf8.first", "unicode/utf8.acceptRanges", "internal/bytealg.MaxLen"], apart := false, laid := [("unicode/utf8.acceptRanges", laid_unicode_utf8_acceptRanges), ("unicode/utf8.first", laid_unicode_utf8_first)] }
def BoxAllsSaid : Prop := boxAllsRow.holds Tryd.pinned (OpenSpec.ofChange boxAllsSpec)

/-- ITS FALSE NEIGHBOUR: 'it returns false'. Refute it at one input. -/
def boxAllsWrong : ChangeSpec := { name := "boxAlls", fn := fun _ => fun
  | [d1, d2] => { results := [.lit (.bool false)], args := [d1, d2] }
  | _ => none }
def BoxAllsWrongFalsely : Prop := boxAllsRow.holds Tryd.pinned (OpenSpec.ofChange boxAllsWrong)

/-- 'postroomlaw.BoxApplies': WHATEVER THE INPUT: true; the input reads as it did. -/
def boxAppliesSpec : ChangeSpec := { name := "boxApplies", fn := fun _ => fun
  | [d1, d2] => { results := [.lit (.bool true)], args := [d1, d2] }
  | _ => none }
def boxAppliesRow : OpenClaim := { program := "ytijdghplfhfpaaadoor", sum := "7b00f308e5c6fe812ef4539f2d9f093bc06e66ebecf81d81fc6eb566bd0f198a", func := "postroom/postroomlaw.BoxApplies", spec := "boxApplies", inPlace := ["internal/bytealg.IndexByteString", "internal/bytealg.CountString", "internal/bytealg.IndexString"], unfollowed := true, recurses := true, named := ["unicode/utf8.first", "unicode/utf8.acceptRanges", "internal/bytealg.MaxLen"], apart := false, laid := [("unicode/utf8.acceptRanges", laid_unicode_utf8_acceptRanges), ("unicode/utf8.first", laid_unicode_utf8_first)] }
def BoxAppliesSaid : Prop := boxAppliesRow.holds Tryd.pinned (OpenSpec.ofChange boxAppliesSpec)

/-- ITS FALSE NEIGHBOUR: 'it returns false'. Refute it at one input. -/
def boxAppliesWrong : ChangeSpec := { name := "boxApplies", fn := fun _ => fun
  | [d1, d2] => { results := [.lit (.bool false)], args := [d1, d2] }
  | _ => none }
def BoxAppliesWrongFalsely : Prop := boxAppliesRow.holds Tryd.pinned (OpenSpec.ofChange boxAppliesWrong)

/-- 'postroomlaw.BookFolds': WHATEVER THE INPUT: true; the input reads as it did. -/
def bookFoldsSpec : ChangeSpec := { name := "bookFolds", fn := fun _ => fun
  | [d1, d2] => { results := [.lit (.bool true)], args := [d1, d2] }
  | _ => none }
def bookFoldsRow : OpenClaim := { program := "ytijdghplfhfpaaadoor", sum := "7b00f308e5c6fe812ef4539f2d9f093bc06e66ebecf81d81fc6eb566bd0f198a", func := "postroom/postroomlaw.BookFolds", spec := "bookFolds", inPlace := ["internal/bytealg.IndexByteString", "internal/bytealg.CountString", "internal/bytealg.IndexString"], unfollowed := true, recurses := true, named := ["unicode/utf8.first", "unicode/utf8.acceptRanges", "internal/bytealg.MaxLen"], apart := false, laid := [("unicode/utf8.acceptRanges", laid_unicode_utf8_acceptRanges), ("unicode/utf8.first", laid_unicode_utf8_first)] }
def BookFoldsSaid : Prop := bookFoldsRow.holds Tryd.pinned (OpenSpec.ofChange bookFoldsSpec)

/-- ITS FALSE NEIGHBOUR: 'it returns false'. Refute it at one input. -/
def bookFoldsWrong : ChangeSpec := { name := "bookFolds", fn := fun _ => fun
  | [d1, d2] => { results := [.lit (.bool false)], args := [d1, d2] }
  | _ => none }
def BookFoldsWrongFalsely : Prop := bookFoldsRow.holds Tryd.pinned (OpenSpec.ofChange bookFoldsWrong)

/-- 'postroomlaw.LmtpLines': WHATEVER THE INPUT: true; the input reads as it did. -/
def lmtpLinesSpec : ChangeSpec := { name := "lmtpLines", fn := fun _ => fun
  | [d1, d2, d3] => { results := [.lit (.bool true)], args := [d1, d2, d3] }
  | _ => none }
def lmtpLinesRow : OpenClaim := { program := "ytijdghplfhfpaaadoor", sum := "7b00f308e5c6fe812ef4539f2d9f093bc06e66ebecf81d81fc6eb566bd0f198a", func := "postroom/postroomlaw.LmtpLines", spec := "lmtpLines", inPlace := ["internal/bytealg.CountString", "internal/bytealg.IndexByteString", "internal/bytealg.IndexString"], unfollowed := true, recurses := true, named := ["unicode/utf8.first", "unicode/utf8.acceptRanges", "internal/bytealg.MaxLen"], apart := false, laid := [("unicode/utf8.acceptRanges", laid_unicode_utf8_acceptRanges), ("unicode/utf8.first", laid_unicode_utf8_first)] }
def LmtpLinesSaid : Prop := lmtpLinesRow.holds Tryd.pinned (OpenSpec.ofChange lmtpLinesSpec)

/-- ITS FALSE NEIGHBOUR: 'it returns false'. Refute it at one input. -/
def lmtpLinesWrong : ChangeSpec := { name := "lmtpLines", fn := fun _ => fun
  | [d1, d2, d3] => { results := [.lit (.bool false)], args := [d1, d2, d3] }
  | _ => none }
def LmtpLinesWrongFalsely : Prop := lmtpLinesRow.holds Tryd.pinned (OpenSpec.ofChange lmtpLinesWrong)

/-- 'postroomlaw.ScriptChecks': WHATEVER THE INPUT: true; the input reads as it did. -/
def scriptChecksSpec : ChangeSpec := { name := "scriptChecks", fn := fun _ => fun
  | [d] => { results := [.lit (.bool true)], args := [d] }
  | _ => none }
def scriptChecksRow : OpenClaim := { program := "ytijdghplfhfpaaadoor", sum := "7b00f308e5c6fe812ef4539f2d9f093bc06e66ebecf81d81fc6eb566bd0f198a", func := "postroom/postroomlaw.ScriptChecks", spec := "scriptChecks", recurses := true, named := ["postroom/script.commands", "postroom/script.tests", "postroom/script.parts", "postroom/script.matches"], loops := true, apart := false, laid := [("postroom/script.commands", laid_postroom_script_commands), ("postroom/script.tests", laid_postroom_script_tests), ("postroom/script.matches", laid_postroom_script_matches), ("postroom/script.parts", laid_postroom_script_parts)] }
def ScriptChecksSaid : Prop := scriptChecksRow.holds Tryd.pinned (OpenSpec.ofChange scriptChecksSpec)

/-- ITS FALSE NEIGHBOUR: 'it returns false'. Refute it at one input. -/
def scriptChecksWrong : ChangeSpec := { name := "scriptChecks", fn := fun _ => fun
  | [d] => { results := [.lit (.bool false)], args := [d] }
  | _ => none }
def ScriptChecksWrongFalsely : Prop := scriptChecksRow.holds Tryd.pinned (OpenSpec.ofChange scriptChecksWrong)

/-- 'postroomlaw.ScriptShows': WHATEVER THE INPUT: true; the input reads as it did. -/
def scriptShowsSpec : ChangeSpec := { name := "scriptShows", fn := fun _ => fun
  | [d] => { results := [.lit (.bool true)], args := [d] }
  | _ => none }
def scriptShowsRow : OpenClaim := { program := "ytijdghplfhfpaaadoor", sum := "7b00f308e5c6fe812ef4539f2d9f093bc06e66ebecf81d81fc6eb566bd0f198a", func := "postroom/postroomlaw.ScriptShows", spec := "scriptShows", recurses := true, named := ["postroom/script.commands", "postroom/script.tests", "postroom/script.parts", "postroom/script.matches"], loops := true, apart := false, laid := [("postroom/script.commands", laid_postroom_script_commands), ("postroom/script.tests", laid_postroom_script_tests), ("postroom/script.matches", laid_postroom_script_matches), ("postroom/script.parts", laid_postroom_script_parts)] }
def ScriptShowsSaid : Prop := scriptShowsRow.holds Tryd.pinned (OpenSpec.ofChange scriptShowsSpec)

/-- ITS FALSE NEIGHBOUR: 'it returns false'. Refute it at one input. -/
def scriptShowsWrong : ChangeSpec := { name := "scriptShows", fn := fun _ => fun
  | [d] => { results := [.lit (.bool false)], args := [d] }
  | _ => none }
def ScriptShowsWrongFalsely : Prop := scriptShowsRow.holds Tryd.pinned (OpenSpec.ofChange scriptShowsWrong)

/-- 'postroomlaw.ScriptParses': WHATEVER THE INPUT: true; the input reads as it did. -/
def scriptParsesSpec : ChangeSpec := { name := "scriptParses", fn := fun _ => fun
  | [d] => { results := [.lit (.bool true)], args := [d] }
  | _ => none }
def scriptParsesRow : OpenClaim := { program := "ytijdghplfhfpaaadoor", sum := "7b00f308e5c6fe812ef4539f2d9f093bc06e66ebecf81d81fc6eb566bd0f198a", func := "postroom/postroomlaw.ScriptParses", spec := "scriptParses", inPlace := ["internal/bytealg.IndexByteString", "internal/bytealg.IndexString"], unfollowed := true, recurses := true, named := ["internal/bytealg.MaxLen", "postroom/script.commands", "postroom/script.tests", "postroom/script.matches", "postroom/script.parts"], apart := false, laid := [("postroom/script.commands", laid_postroom_script_commands), ("postroom/script.tests", laid_postroom_script_tests), ("postroom/script.matches", laid_postroom_script_matches), ("postroom/script.parts", laid_postroom_script_parts)] }
def ScriptParsesSaid : Prop := scriptParsesRow.holds Tryd.pinned (OpenSpec.ofChange scriptParsesSpec)

/-- ITS FALSE NEIGHBOUR: 'it returns false'. Refute it at one input. -/
def scriptParsesWrong : ChangeSpec := { name := "scriptParses", fn := fun _ => fun
  | [d] => { results := [.lit (.bool false)], args := [d] }
  | _ => none }
def ScriptParsesWrongFalsely : Prop := scriptParsesRow.holds Tryd.pinned (OpenSpec.ofChange scriptParsesWrong)

/-- 'postroomlaw.RuleChecks': WHATEVER THE INPUT: true; the input reads as it did. -/
def ruleChecksSpec : ChangeSpec := { name := "ruleChecks", fn := fun _ => fun
  | [d] => { results := [.lit (.bool true)], args := [d] }
  | _ => none }
def ruleChecksRow : OpenClaim := { program := "ytijdghplfhfpaaadoor", sum := "7b00f308e5c6fe812ef4539f2d9f093bc06e66ebecf81d81fc6eb566bd0f198a", func := "postroom/postroomlaw.RuleChecks", spec := "ruleChecks", inPlace := ["internal/bytealg.IndexByteString", "internal/bytealg.CountString", "internal/bytealg.IndexString"], unfollowed := true, recurses := true, named := ["postroom/rule.extensions", "postroom/script.commands", "postroom/script.tests", "postroom/script.parts", "postroom/script.matches", "postroom/rule.names", "unicode/utf8.first", "unicode/utf8.acceptRanges", "internal/bytealg.MaxLen"], loops := true, apart := false, laid := [("unicode/utf8.acceptRanges", laid_unicode_utf8_acceptRanges), ("postroom/script.commands", laid_postroom_script_commands), ("postroom/script.tests", laid_postroom_script_tests), ("postroom/script.matches", laid_postroom_script_matches), ("postroom/script.parts", laid_postroom_script_parts), ("postroom/rule.extensions", laid_postroom_rule_extensions), ("postroom/rule.names", laid_postroom_rule_names), ("unicode/utf8.first", laid_unicode_utf8_first)] }
def RuleChecksSaid : Prop := ruleChecksRow.holds Tryd.pinned (OpenSpec.ofChange ruleChecksSpec)

/-- ITS FALSE NEIGHBOUR: 'it returns false'. Refute it at one input. -/
def ruleChecksWrong : ChangeSpec := { name := "ruleChecks", fn := fun _ => fun
  | [d] => { results := [.lit (.bool false)], args := [d] }
  | _ => none }
def RuleChecksWrongFalsely : Prop := ruleChecksRow.holds Tryd.pinned (OpenSpec.ofChange ruleChecksWrong)

/- THE SECOND FORM. 'bulk': how many values and letters a reading holds, each counted each time it is reached (what is shared counts as often as it is met; a slice's spare places count too). A statement '..UptoSaid' is the law's where the arguments, and the package variables that the reading takes, are together of bulk at most 1048576: NARROWER than '..Said'. Prove '..Said' where nothing that the law and all that it calls make is longer than what came in: it says more and counts as full. Else prove '..UptoSaid'. A law counts once. -/
mutual
def uptoBulk {H : Type} : DataW H → Nat
  | .lit (.string bytes) => bytes.length + 1
  | .lit _ => 1
  | .nil => 1
  | .ptr d => uptoBulk d + 1
  | .slice elems spare => uptoBulkAll elems + uptoBulkAll spare + 1
  | .agg parts => uptoBulkAll parts + 1
  | .iface _ d => uptoBulk d + 1
  | .map entries => uptoBulkEntries entries + 1
  | .held _ => 1
def uptoBulkAll {H : Type} : List (DataW H) → Nat
  | [] => 0
  | d :: r => uptoBulk d + uptoBulkAll r
def uptoBulkEntries {H : Type} : List (Lit × DataW H) → Nat
  | [] => 0
  | x :: r => uptoBulkEntry x + uptoBulkEntries r
def uptoBulkEntry {H : Type} : Lit × DataW H → Nat
  | (.string bytes, d) => bytes.length + uptoBulk d + 1
  | (_, d) => uptoBulk d + 1
 end
def uptoSmall : (H : Type) → List (DataW H) → Bool := fun _ ds => decide (uptoBulkAll ds ≤ 1048576)
def OpenSpec.upto (s : _root_.Go.ChangeSpec) : _root_.Go.OpenSpec := { _root_.Go.OpenSpec.ofChange s with cond := some uptoSmall }

/-- 'postroomlaw.BoxChecks', WHERE WHAT IT READS IS OF BULK AT MOST 1048576: true; the input reads as it did. -/
def boxChecksUptoRow : OpenClaim := { program := "ytijdghplfhfpaaadoor", sum := "7b00f308e5c6fe812ef4539f2d9f093bc06e66ebecf81d81fc6eb566bd0f198a", func := "postroom/postroomlaw.BoxChecks", spec := "boxChecks", inPlace := ["internal/bytealg.IndexByteString", "internal/bytealg.CountString", "internal/bytealg.IndexString"], unfollowed := true, recurses := true, named := ["unicode/utf8.first", "unicode/utf8.acceptRanges", "internal/bytealg.MaxLen"], apart := false, laid := [("unicode/utf8.acceptRanges", laid_unicode_utf8_acceptRanges), ("unicode/utf8.first", laid_unicode_utf8_first)], narrowed := true }
def BoxChecksUptoSaid : Prop := boxChecksUptoRow.holds Tryd.pinned (OpenSpec.upto boxChecksSpec)

/-- 'postroomlaw.BoxSizes', WHERE WHAT IT READS IS OF BULK AT MOST 1048576: true; the input reads as it did. -/
def boxSizesUptoRow : OpenClaim := { program := "ytijdghplfhfpaaadoor", sum := "7b00f308e5c6fe812ef4539f2d9f093bc06e66ebecf81d81fc6eb566bd0f198a", func := "postroom/postroomlaw.BoxSizes", spec := "boxSizes", inPlace := ["internal/bytealg.IndexByteString", "internal/bytealg.CountString", "internal/bytealg.IndexString"], unfollowed := true, recurses := true, named := ["unicode/utf8.first", "unicode/utf8.acceptRanges", "internal/bytealg.MaxLen"], apart := false, laid := [("unicode/utf8.acceptRanges", laid_unicode_utf8_acceptRanges), ("unicode/utf8.first", laid_unicode_utf8_first)], narrowed := true }
def BoxSizesUptoSaid : Prop := boxSizesUptoRow.holds Tryd.pinned (OpenSpec.upto boxSizesSpec)

/-- 'postroomlaw.BoxAlls', WHERE WHAT IT READS IS OF BULK AT MOST 1048576: true; the input reads as it did. -/
def boxAllsUptoRow : OpenClaim := { program := "ytijdghplfhfpaaadoor", sum := "7b00f308e5c6fe812ef4539f2d9f093bc06e66ebecf81d81fc6eb566bd0f198a", func := "postroom/postroomlaw.BoxAlls", spec := "boxAlls", inPlace := ["internal/bytealg.IndexByteString", "internal/bytealg.CountString", "internal/bytealg.IndexString"], unfollowed := true, recurses := true, named := ["unicode/utf8.first", "unicode/utf8.acceptRanges", "internal/bytealg.MaxLen"], apart := false, laid := [("unicode/utf8.acceptRanges", laid_unicode_utf8_acceptRanges), ("unicode/utf8.first", laid_unicode_utf8_first)], narrowed := true }
def BoxAllsUptoSaid : Prop := boxAllsUptoRow.holds Tryd.pinned (OpenSpec.upto boxAllsSpec)

/-- 'postroomlaw.BoxApplies', WHERE WHAT IT READS IS OF BULK AT MOST 1048576: true; the input reads as it did. -/
def boxAppliesUptoRow : OpenClaim := { program := "ytijdghplfhfpaaadoor", sum := "7b00f308e5c6fe812ef4539f2d9f093bc06e66ebecf81d81fc6eb566bd0f198a", func := "postroom/postroomlaw.BoxApplies", spec := "boxApplies", inPlace := ["internal/bytealg.IndexByteString", "internal/bytealg.CountString", "internal/bytealg.IndexString"], unfollowed := true, recurses := true, named := ["unicode/utf8.first", "unicode/utf8.acceptRanges", "internal/bytealg.MaxLen"], apart := false, laid := [("unicode/utf8.acceptRanges", laid_unicode_utf8_acceptRanges), ("unicode/utf8.first", laid_unicode_utf8_first)], narrowed := true }
def BoxAppliesUptoSaid : Prop := boxAppliesUptoRow.holds Tryd.pinned (OpenSpec.upto boxAppliesSpec)

/-- 'postroomlaw.BookFolds', WHERE WHAT IT READS IS OF BULK AT MOST 1048576: true; the input reads as it did. -/
def bookFoldsUptoRow : OpenClaim := { program := "ytijdghplfhfpaaadoor", sum := "7b00f308e5c6fe812ef4539f2d9f093bc06e66ebecf81d81fc6eb566bd0f198a", func := "postroom/postroomlaw.BookFolds", spec := "bookFolds", inPlace := ["internal/bytealg.IndexByteString", "internal/bytealg.CountString", "internal/bytealg.IndexString"], unfollowed := true, recurses := true, named := ["unicode/utf8.first", "unicode/utf8.acceptRanges", "internal/bytealg.MaxLen"], apart := false, laid := [("unicode/utf8.acceptRanges", laid_unicode_utf8_acceptRanges), ("unicode/utf8.first", laid_unicode_utf8_first)], narrowed := true }
def BookFoldsUptoSaid : Prop := bookFoldsUptoRow.holds Tryd.pinned (OpenSpec.upto bookFoldsSpec)

/-- 'postroomlaw.LmtpLines', WHERE WHAT IT READS IS OF BULK AT MOST 1048576: true; the input reads as it did. -/
def lmtpLinesUptoRow : OpenClaim := { program := "ytijdghplfhfpaaadoor", sum := "7b00f308e5c6fe812ef4539f2d9f093bc06e66ebecf81d81fc6eb566bd0f198a", func := "postroom/postroomlaw.LmtpLines", spec := "lmtpLines", inPlace := ["internal/bytealg.CountString", "internal/bytealg.IndexByteString", "internal/bytealg.IndexString"], unfollowed := true, recurses := true, named := ["unicode/utf8.first", "unicode/utf8.acceptRanges", "internal/bytealg.MaxLen"], apart := false, laid := [("unicode/utf8.acceptRanges", laid_unicode_utf8_acceptRanges), ("unicode/utf8.first", laid_unicode_utf8_first)], narrowed := true }
def LmtpLinesUptoSaid : Prop := lmtpLinesUptoRow.holds Tryd.pinned (OpenSpec.upto lmtpLinesSpec)

/-- 'postroomlaw.ScriptChecks', WHERE WHAT IT READS IS OF BULK AT MOST 1048576: true; the input reads as it did. -/
def scriptChecksUptoRow : OpenClaim := { program := "ytijdghplfhfpaaadoor", sum := "7b00f308e5c6fe812ef4539f2d9f093bc06e66ebecf81d81fc6eb566bd0f198a", func := "postroom/postroomlaw.ScriptChecks", spec := "scriptChecks", recurses := true, named := ["postroom/script.commands", "postroom/script.tests", "postroom/script.parts", "postroom/script.matches"], loops := true, apart := false, laid := [("postroom/script.commands", laid_postroom_script_commands), ("postroom/script.tests", laid_postroom_script_tests), ("postroom/script.matches", laid_postroom_script_matches), ("postroom/script.parts", laid_postroom_script_parts)], narrowed := true }
def ScriptChecksUptoSaid : Prop := scriptChecksUptoRow.holds Tryd.pinned (OpenSpec.upto scriptChecksSpec)

/-- 'postroomlaw.ScriptShows', WHERE WHAT IT READS IS OF BULK AT MOST 1048576: true; the input reads as it did. -/
def scriptShowsUptoRow : OpenClaim := { program := "ytijdghplfhfpaaadoor", sum := "7b00f308e5c6fe812ef4539f2d9f093bc06e66ebecf81d81fc6eb566bd0f198a", func := "postroom/postroomlaw.ScriptShows", spec := "scriptShows", recurses := true, named := ["postroom/script.commands", "postroom/script.tests", "postroom/script.parts", "postroom/script.matches"], loops := true, apart := false, laid := [("postroom/script.commands", laid_postroom_script_commands), ("postroom/script.tests", laid_postroom_script_tests), ("postroom/script.matches", laid_postroom_script_matches), ("postroom/script.parts", laid_postroom_script_parts)], narrowed := true }
def ScriptShowsUptoSaid : Prop := scriptShowsUptoRow.holds Tryd.pinned (OpenSpec.upto scriptShowsSpec)

/-- 'postroomlaw.ScriptParses', WHERE WHAT IT READS IS OF BULK AT MOST 1048576: true; the input reads as it did. -/
def scriptParsesUptoRow : OpenClaim := { program := "ytijdghplfhfpaaadoor", sum := "7b00f308e5c6fe812ef4539f2d9f093bc06e66ebecf81d81fc6eb566bd0f198a", func := "postroom/postroomlaw.ScriptParses", spec := "scriptParses", inPlace := ["internal/bytealg.IndexByteString", "internal/bytealg.IndexString"], unfollowed := true, recurses := true, named := ["internal/bytealg.MaxLen", "postroom/script.commands", "postroom/script.tests", "postroom/script.matches", "postroom/script.parts"], apart := false, laid := [("postroom/script.commands", laid_postroom_script_commands), ("postroom/script.tests", laid_postroom_script_tests), ("postroom/script.matches", laid_postroom_script_matches), ("postroom/script.parts", laid_postroom_script_parts)], narrowed := true }
def ScriptParsesUptoSaid : Prop := scriptParsesUptoRow.holds Tryd.pinned (OpenSpec.upto scriptParsesSpec)

/-- 'postroomlaw.RuleChecks', WHERE WHAT IT READS IS OF BULK AT MOST 1048576: true; the input reads as it did. -/
def ruleChecksUptoRow : OpenClaim := { program := "ytijdghplfhfpaaadoor", sum := "7b00f308e5c6fe812ef4539f2d9f093bc06e66ebecf81d81fc6eb566bd0f198a", func := "postroom/postroomlaw.RuleChecks", spec := "ruleChecks", inPlace := ["internal/bytealg.IndexByteString", "internal/bytealg.CountString", "internal/bytealg.IndexString"], unfollowed := true, recurses := true, named := ["postroom/rule.extensions", "postroom/script.commands", "postroom/script.tests", "postroom/script.parts", "postroom/script.matches", "postroom/rule.names", "unicode/utf8.first", "unicode/utf8.acceptRanges", "internal/bytealg.MaxLen"], loops := true, apart := false, laid := [("unicode/utf8.acceptRanges", laid_unicode_utf8_acceptRanges), ("postroom/script.commands", laid_postroom_script_commands), ("postroom/script.tests", laid_postroom_script_tests), ("postroom/script.matches", laid_postroom_script_matches), ("postroom/script.parts", laid_postroom_script_parts), ("postroom/rule.extensions", laid_postroom_rule_extensions), ("postroom/rule.names", laid_postroom_rule_names), ("unicode/utf8.first", laid_unicode_utf8_first)], narrowed := true }
def RuleChecksUptoSaid : Prop := ruleChecksUptoRow.holds Tryd.pinned (OpenSpec.upto ruleChecksSpec)

end Rows
end Go.Proofs.YtijdghplfhfpaaaDoor
