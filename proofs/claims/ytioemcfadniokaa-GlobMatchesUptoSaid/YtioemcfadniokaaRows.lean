/-
  No cell of these rows narrows 'for every input' (looked for: loops, veiled, ifaces, maps, wideKeys, modest, calm, conditions, laid).
  DERIVED. THE GIVEN ROWS OF THIS SEAT. 9 by the template 'for every input the law returns true; each argument reads behind the call as it read before'; 0 by the template 'total and deterministic' (their statements: YtioemcfadniokaaTotals.lean).
  GIVEN WITH THE SEED: the statements are not yours to turn. If you find one false, say at which input.
  Laid BY PROGRAM, IN A SANDBOX (cutbox-rows.mjs): the forced cells as the released guide's own fill.sh prints them over the translation 2d066e46aff6a7ac… (all of the seat's roots in one cut). By AI agents, Wed Nov 11 2026. No macro, syntax, notation, axiom, sorry.
-/
import Derived.Test.YtioemcfadniokaaChecked
import GoSem.Claim
import GoSem.ClaimJoined
import GoSem.ClaimMapViews
import Derived.JoinedTies
import Derived.KernelRfl
namespace Go.Proofs.Ytioemcfadniokaa
/- THE CELL 'sum', in the pinned program and in every row, IS THE sha256 OF THE DUMP (.gsa) THAT YtioemcfadniokaaProg.lean LOADS. Nothing in Lean hashes anything: it is a label: what it is worth is what the hold of that sum in a sandbox is worth. -/
noncomputable def Try.pinned : Pinned := { name := "ytioemcfadniokaa", sum := "2d066e46aff6a7ace920e16b6bc098bb13ab626efbc6b6c477b6ad77b9f3446d", checked := Try.checked }
namespace Rows
def none {H : Type} : Left H := { results := [], args := [] }

/-- 'postroomlaw.Names': WHATEVER THE INPUT: true; the input reads as it did. -/
def namesSpec : ChangeSpec := { name := "names", fn := fun _ => fun
  | [] => { results := [.lit (.bool true)], args := [] }
  | _ => none }
def namesRow : OpenClaim := { program := "ytioemcfadniokaa", sum := "2d066e46aff6a7ace920e16b6bc098bb13ab626efbc6b6c477b6ad77b9f3446d", func := "postroom/postroomlaw.Names", spec := "names", apart := false }
def NamesSaid : Prop := namesRow.holds Try.pinned (OpenSpec.ofChange namesSpec)

/-- ITS FALSE NEIGHBOUR: 'it returns false'. Refute it at one input. -/
def namesWrong : ChangeSpec := { name := "names", fn := fun _ => fun
  | [] => { results := [.lit (.bool false)], args := [] }
  | _ => none }
def NamesWrongFalsely : Prop := namesRow.holds Try.pinned (OpenSpec.ofChange namesWrong)

/-- 'postroomlaw.RuleNames': WHATEVER THE INPUT: true; the input reads as it did. -/
def ruleNamesSpec : ChangeSpec := { name := "ruleNames", fn := fun _ => fun
  | [d] => { results := [.lit (.bool true)], args := [d] }
  | _ => none }
def ruleNamesRow : OpenClaim := { program := "ytioemcfadniokaa", sum := "2d066e46aff6a7ace920e16b6bc098bb13ab626efbc6b6c477b6ad77b9f3446d", func := "postroom/postroomlaw.RuleNames", spec := "ruleNames", apart := false }
def RuleNamesSaid : Prop := ruleNamesRow.holds Try.pinned (OpenSpec.ofChange ruleNamesSpec)

/-- ITS FALSE NEIGHBOUR: 'it returns false'. Refute it at one input. -/
def ruleNamesWrong : ChangeSpec := { name := "ruleNames", fn := fun _ => fun
  | [d] => { results := [.lit (.bool false)], args := [d] }
  | _ => none }
def RuleNamesWrongFalsely : Prop := ruleNamesRow.holds Try.pinned (OpenSpec.ofChange ruleNamesWrong)

/-- 'postroomlaw.GlobFolds': WHATEVER THE INPUT: true; the input reads as it did. -/
def globFoldsSpec : ChangeSpec := { name := "globFolds", fn := fun _ => fun
  | [d] => { results := [.lit (.bool true)], args := [d] }
  | _ => none }
def globFoldsRow : OpenClaim := { program := "ytioemcfadniokaa", sum := "2d066e46aff6a7ace920e16b6bc098bb13ab626efbc6b6c477b6ad77b9f3446d", func := "postroom/postroomlaw.GlobFolds", spec := "globFolds", apart := false }
def GlobFoldsSaid : Prop := globFoldsRow.holds Try.pinned (OpenSpec.ofChange globFoldsSpec)

/-- ITS FALSE NEIGHBOUR: 'it returns false'. Refute it at one input. -/
def globFoldsWrong : ChangeSpec := { name := "globFolds", fn := fun _ => fun
  | [d] => { results := [.lit (.bool false)], args := [d] }
  | _ => none }
def GlobFoldsWrongFalsely : Prop := globFoldsRow.holds Try.pinned (OpenSpec.ofChange globFoldsWrong)

/-- 'postroomlaw.BookSyncs': WHATEVER THE INPUT: true; the input reads as it did. -/
def bookSyncsSpec : ChangeSpec := { name := "bookSyncs", fn := fun _ => fun
  | [d] => { results := [.lit (.bool true)], args := [d] }
  | _ => none }
def bookSyncsRow : OpenClaim := { program := "ytioemcfadniokaa", sum := "2d066e46aff6a7ace920e16b6bc098bb13ab626efbc6b6c477b6ad77b9f3446d", func := "postroom/postroomlaw.BookSyncs", spec := "bookSyncs", apart := false }
def BookSyncsSaid : Prop := bookSyncsRow.holds Try.pinned (OpenSpec.ofChange bookSyncsSpec)

/-- ITS FALSE NEIGHBOUR: 'it returns false'. Refute it at one input. -/
def bookSyncsWrong : ChangeSpec := { name := "bookSyncs", fn := fun _ => fun
  | [d] => { results := [.lit (.bool false)], args := [d] }
  | _ => none }
def BookSyncsWrongFalsely : Prop := bookSyncsRow.holds Try.pinned (OpenSpec.ofChange bookSyncsWrong)

/-- 'postroomlaw.BookCrashes': WHATEVER THE INPUT: true; the input reads as it did. -/
def bookCrashesSpec : ChangeSpec := { name := "bookCrashes", fn := fun _ => fun
  | [d1, d2] => { results := [.lit (.bool true)], args := [d1, d2] }
  | _ => none }
def bookCrashesRow : OpenClaim := { program := "ytioemcfadniokaa", sum := "2d066e46aff6a7ace920e16b6bc098bb13ab626efbc6b6c477b6ad77b9f3446d", func := "postroom/postroomlaw.BookCrashes", spec := "bookCrashes", apart := false }
def BookCrashesSaid : Prop := bookCrashesRow.holds Try.pinned (OpenSpec.ofChange bookCrashesSpec)

/-- ITS FALSE NEIGHBOUR: 'it returns false'. Refute it at one input. -/
def bookCrashesWrong : ChangeSpec := { name := "bookCrashes", fn := fun _ => fun
  | [d1, d2] => { results := [.lit (.bool false)], args := [d1, d2] }
  | _ => none }
def BookCrashesWrongFalsely : Prop := bookCrashesRow.holds Try.pinned (OpenSpec.ofChange bookCrashesWrong)

/-- 'postroomlaw.JudgeEnds': WHATEVER THE INPUT: true; the input reads as it did. -/
def judgeEndsSpec : ChangeSpec := { name := "judgeEnds", fn := fun _ => fun
  | [d] => { results := [.lit (.bool true)], args := [d] }
  | _ => none }
def judgeEndsRow : OpenClaim := { program := "ytioemcfadniokaa", sum := "2d066e46aff6a7ace920e16b6bc098bb13ab626efbc6b6c477b6ad77b9f3446d", func := "postroom/postroomlaw.JudgeEnds", spec := "judgeEnds", apart := false }
def JudgeEndsSaid : Prop := judgeEndsRow.holds Try.pinned (OpenSpec.ofChange judgeEndsSpec)

/-- ITS FALSE NEIGHBOUR: 'it returns false'. Refute it at one input. -/
def judgeEndsWrong : ChangeSpec := { name := "judgeEnds", fn := fun _ => fun
  | [d] => { results := [.lit (.bool false)], args := [d] }
  | _ => none }
def JudgeEndsWrongFalsely : Prop := judgeEndsRow.holds Try.pinned (OpenSpec.ofChange judgeEndsWrong)

/-- 'postroomlaw.PostChecks': WHATEVER THE INPUT: true; the input reads as it did. -/
def postChecksSpec : ChangeSpec := { name := "postChecks", fn := fun _ => fun
  | [d] => { results := [.lit (.bool true)], args := [d] }
  | _ => none }
def postChecksRow : OpenClaim := { program := "ytioemcfadniokaa", sum := "2d066e46aff6a7ace920e16b6bc098bb13ab626efbc6b6c477b6ad77b9f3446d", func := "postroom/postroomlaw.PostChecks", spec := "postChecks", apart := false }
def PostChecksSaid : Prop := postChecksRow.holds Try.pinned (OpenSpec.ofChange postChecksSpec)

/-- ITS FALSE NEIGHBOUR: 'it returns false'. Refute it at one input. -/
def postChecksWrong : ChangeSpec := { name := "postChecks", fn := fun _ => fun
  | [d] => { results := [.lit (.bool false)], args := [d] }
  | _ => none }
def PostChecksWrongFalsely : Prop := postChecksRow.holds Try.pinned (OpenSpec.ofChange postChecksWrong)

/-- 'postroomlaw.TokenChecks': WHATEVER THE INPUT: true; the input reads as it did. -/
def tokenChecksSpec : ChangeSpec := { name := "tokenChecks", fn := fun _ => fun
  | [d] => { results := [.lit (.bool true)], args := [d] }
  | _ => none }
def tokenChecksRow : OpenClaim := { program := "ytioemcfadniokaa", sum := "2d066e46aff6a7ace920e16b6bc098bb13ab626efbc6b6c477b6ad77b9f3446d", func := "postroom/postroomlaw.TokenChecks", spec := "tokenChecks", inPlace := ["internal/bytealg.IndexByteString", "internal/bytealg.IndexString"], unfollowed := true, recurses := true, named := ["internal/bytealg.MaxLen"], apart := false }
def TokenChecksSaid : Prop := tokenChecksRow.holds Try.pinned (OpenSpec.ofChange tokenChecksSpec)

/-- ITS FALSE NEIGHBOUR: 'it returns false'. Refute it at one input. -/
def tokenChecksWrong : ChangeSpec := { name := "tokenChecks", fn := fun _ => fun
  | [d] => { results := [.lit (.bool false)], args := [d] }
  | _ => none }
def TokenChecksWrongFalsely : Prop := tokenChecksRow.holds Try.pinned (OpenSpec.ofChange tokenChecksWrong)

/-- 'postroomlaw.GlobMatches': WHATEVER THE INPUT: true; the input reads as it did. -/
def globMatchesSpec : ChangeSpec := { name := "globMatches", fn := fun _ => fun
  | [d1, d2, d3] => { results := [.lit (.bool true)], args := [d1, d2, d3] }
  | _ => none }
def globMatchesRow : OpenClaim := { program := "ytioemcfadniokaa", sum := "2d066e46aff6a7ace920e16b6bc098bb13ab626efbc6b6c477b6ad77b9f3446d", func := "postroom/postroomlaw.GlobMatches", spec := "globMatches", inPlace := ["internal/bytealg.IndexByteString", "internal/bytealg.IndexString"], unfollowed := true, recurses := true, named := ["internal/bytealg.MaxLen"], apart := false }
def GlobMatchesSaid : Prop := globMatchesRow.holds Try.pinned (OpenSpec.ofChange globMatchesSpec)

/-- ITS FALSE NEIGHBOUR: 'it returns false'. Refute it at one input. -/
def globMatchesWrong : ChangeSpec := { name := "globMatches", fn := fun _ => fun
  | [d1, d2, d3] => { results := [.lit (.bool false)], args := [d1, d2, d3] }
  | _ => none }
def GlobMatchesWrongFalsely : Prop := globMatchesRow.holds Try.pinned (OpenSpec.ofChange globMatchesWrong)

/- THE SECOND FORM. 'bulk': how many values and letters a reading holds, each counted each time it is reached (what is shared counts as often as it is met; a slice's spare places count too). A statement '..UptoSaid' is the law's where the arguments, and the package variables that the reading takes, are together of bulk at most 1048576: NARROWER than '..Said'. Prove '..Said' where nothing that the law and all that it calls make is longer than what came in: it says more and counts as full. Else prove '..UptoSaid'. A law counts once. -/
mutual
def uptoBulk {H : Type} : DataW H → Nat
  | .lit (.string bytes) => bytes.length + 1
  | .lit _ => 1
  | .nil => 1
  | .ptr d => uptoBulk d + 1
  | .slice elems spare => uptoBulkAll elems + uptoBulkAll spare + 1
  | .agg parts => uptoBulkAll parts + 1
  | .iface _ d => uptoBulk d + 1
  | .map entries => uptoBulkEntries entries + 1
  | .held _ => 1
def uptoBulkAll {H : Type} : List (DataW H) → Nat
  | [] => 0
  | d :: r => uptoBulk d + uptoBulkAll r
def uptoBulkEntries {H : Type} : List (Lit × DataW H) → Nat
  | [] => 0
  | x :: r => uptoBulkEntry x + uptoBulkEntries r
def uptoBulkEntry {H : Type} : Lit × DataW H → Nat
  | (.string bytes, d) => bytes.length + uptoBulk d + 1
  | (_, d) => uptoBulk d + 1
 end
def uptoSmall : (H : Type) → List (DataW H) → Bool := fun _ ds => decide (uptoBulkAll ds ≤ 1048576)
def OpenSpec.upto (s : _root_.Go.ChangeSpec) : _root_.Go.OpenSpec := { _root_.Go.OpenSpec.ofChange s with cond := some uptoSmall }

/-- 'postroomlaw.Names', WHERE WHAT IT READS IS OF BULK AT MOST 1048576: true; the input reads as it did. -/
def namesUptoRow : OpenClaim := { program := "ytioemcfadniokaa", sum := "2d066e46aff6a7ace920e16b6bc098bb13ab626efbc6b6c477b6ad77b9f3446d", func := "postroom/postroomlaw.Names", spec := "names", apart := false, narrowed := true }
def NamesUptoSaid : Prop := namesUptoRow.holds Try.pinned (OpenSpec.upto namesSpec)

/-- 'postroomlaw.RuleNames', WHERE WHAT IT READS IS OF BULK AT MOST 1048576: true; the input reads as it did. -/
def ruleNamesUptoRow : OpenClaim := { program := "ytioemcfadniokaa", sum := "2d066e46aff6a7ace920e16b6bc098bb13ab626efbc6b6c477b6ad77b9f3446d", func := "postroom/postroomlaw.RuleNames", spec := "ruleNames", apart := false, narrowed := true }
def RuleNamesUptoSaid : Prop := ruleNamesUptoRow.holds Try.pinned (OpenSpec.upto ruleNamesSpec)

/-- 'postroomlaw.GlobFolds', WHERE WHAT IT READS IS OF BULK AT MOST 1048576: true; the input reads as it did. -/
def globFoldsUptoRow : OpenClaim := { program := "ytioemcfadniokaa", sum := "2d066e46aff6a7ace920e16b6bc098bb13ab626efbc6b6c477b6ad77b9f3446d", func := "postroom/postroomlaw.GlobFolds", spec := "globFolds", apart := false, narrowed := true }
def GlobFoldsUptoSaid : Prop := globFoldsUptoRow.holds Try.pinned (OpenSpec.upto globFoldsSpec)

/-- 'postroomlaw.BookSyncs', WHERE WHAT IT READS IS OF BULK AT MOST 1048576: true; the input reads as it did. -/
def bookSyncsUptoRow : OpenClaim := { program := "ytioemcfadniokaa", sum := "2d066e46aff6a7ace920e16b6bc098bb13ab626efbc6b6c477b6ad77b9f3446d", func := "postroom/postroomlaw.BookSyncs", spec := "bookSyncs", apart := false, narrowed := true }
def BookSyncsUptoSaid : Prop := bookSyncsUptoRow.holds Try.pinned (OpenSpec.upto bookSyncsSpec)

/-- 'postroomlaw.BookCrashes', WHERE WHAT IT READS IS OF BULK AT MOST 1048576: true; the input reads as it did. -/
def bookCrashesUptoRow : OpenClaim := { program := "ytioemcfadniokaa", sum := "2d066e46aff6a7ace920e16b6bc098bb13ab626efbc6b6c477b6ad77b9f3446d", func := "postroom/postroomlaw.BookCrashes", spec := "bookCrashes", apart := false, narrowed := true }
def BookCrashesUptoSaid : Prop := bookCrashesUptoRow.holds Try.pinned (OpenSpec.upto bookCrashesSpec)

/-- 'postroomlaw.JudgeEnds', WHERE WHAT IT READS IS OF BULK AT MOST 1048576: true; the input reads as it did. -/
def judgeEndsUptoRow : OpenClaim := { program := "ytioemcfadniokaa", sum := "2d066e46aff6a7ace920e16b6bc098bb13ab626efbc6b6c477b6ad77b9f3446d", func := "postroom/postroomlaw.JudgeEnds", spec := "judgeEnds", apart := false, narrowed := true }
def JudgeEndsUptoSaid : Prop := judgeEndsUptoRow.holds Try.pinned (OpenSpec.upto judgeEndsSpec)

/-- 'postroomlaw.PostChecks', WHERE WHAT IT READS IS OF BULK AT MOST 1048576: true; the input reads as it did. -/
def postChecksUptoRow : OpenClaim := { program := "ytioemcfadniokaa", sum := "2d066e46aff6a7ace920e16b6bc098bb13ab626efbc6b6c477b6ad77b9f3446d", func := "postroom/postroomlaw.PostChecks", spec := "postChecks", apart := false, narrowed := true }
def PostChecksUptoSaid : Prop := postChecksUptoRow.holds Try.pinned (OpenSpec.upto postChecksSpec)

/-- 'postroomlaw.TokenChecks', WHERE WHAT IT READS IS OF BULK AT MOST 1048576: true; the input reads as it did. -/
def tokenChecksUptoRow : OpenClaim := { program := "ytioemcfadniokaa", sum := "2d066e46aff6a7ace920e16b6bc098bb13ab626efbc6b6c477b6ad77b9f3446d", func := "postroom/postroomlaw.TokenChecks", spec := "tokenChecks", inPlace := ["internal/bytealg.IndexByteString", "internal/bytealg.IndexString"], unfollowed := true, recurses := true, named := ["internal/bytealg.MaxLen"], apart := false, narrowed := true }
def TokenChecksUptoSaid : Prop := tokenChecksUptoRow.holds Try.pinned (OpenSpec.upto tokenChecksSpec)

/-- 'postroomlaw.GlobMatches', WHERE WHAT IT READS IS OF BULK AT MOST 1048576: true; the input reads as it did. -/
def globMatchesUptoRow : OpenClaim := { program := "ytioemcfadniokaa", sum := "2d066e46aff6a7ace920e16b6bc098bb13ab626efbc6b6c477b6ad77b9f3446d", func := "postroom/postroomlaw.GlobMatches", spec := "globMatches", inPlace := ["internal/bytealg.IndexByteString", "internal/bytealg.IndexString"], unfollowed := true, recurses := true, named := ["internal/bytealg.MaxLen"], apart := false, narrowed := true }
def GlobMatchesUptoSaid : Prop := globMatchesUptoRow.holds Try.pinned (OpenSpec.upto globMatchesSpec)

end Rows
end Go.Proofs.Ytioemcfadniokaa
