/-
  NARROWER THAN 'FOR EVERY INPUT', by the rows' own cells (each row's printed sentence says how): RuleFlags: laid · WhoChecks: laid · WhoParts: laid.
  DERIVED. THE GIVEN ROWS OF THIS SEAT. 3 by the template 'for every input the law returns true; each argument reads behind the call as it read before'; 0 by the template 'total and deterministic' (their statements: YtioemcfadniokaaDoorTotals.lean).
  GIVEN WITH THE SEED: the statements are not yours to turn. If you find one false, say at which input.
  Laid BY PROGRAM, IN A SANDBOX (cutbox-rows.mjs): the forced cells as the released guide's own fill.sh prints them over the translation 6222d9c862812585… (all of the seat's roots in one cut). By AI agents, Wed Nov 11 2026. No macro, syntax, notation, axiom, sorry.
-/
import Derived.Test.YtioemcfadniokaaDoorChecked
import GoSem.PinnedTables
import GoSem.Claim
import GoSem.ClaimJoined
import GoSem.ClaimMapViews
import Derived.JoinedTies
import Derived.KernelRfl
namespace Go.Proofs.YtioemcfadniokaaDoor
/- THE CELL 'sum', in the pinned program and in every row, IS THE sha256 OF THE DUMP (.gsa) THAT YtioemcfadniokaaDoorProg.lean LOADS. Nothing in Lean hashes anything: it is a label: what it is worth is what the hold of that sum in a sandbox is worth. -/
noncomputable def Tryd.pinned : Pinned := { name := "ytioemcfadniokaadoor", sum := "6222d9c862812585d4b500db5365a02d2bff737baa97bfc107192e2dc8ab58c5", checked := Tryd.checked }
namespace Rows
def none {H : Type} : Left H := { results := [], args := [] }

/- WHAT THE LISTED PACKAGE-LEVEL VARIABLES READ AS WHEN THE CALL BEGINS. Each datum BY PROGRAM (the guide's laid-datum.mjs) off the statement by which the dump's own 'gosem.cut.vars' lays the variable. In a bare row this is a premise. The card (YtioemcfadniokaaDoorCards.lean) ties it to the program's text. -/
def laid_postroom_rule_names {H : Type} : DataW H := .agg [.lit (.string [92, 83, 101, 101, 110]), .lit (.string [92, 65, 110, 115, 119, 101, 114, 101, 100]), .lit (.string [92, 70, 108, 97, 103, 103, 101, 100]), .lit (.string [92, 68, 101, 108, 101, 116, 101, 100]), .lit (.string [92, 68, 114, 97, 102, 116])]
def laid_unicode_utf8_acceptRanges {H : Type} : DataW H := .agg [.agg [.lit (.int .u8 128), .lit (.int .u8 191)], .agg [.lit (.int .u8 160), .lit (.int .u8 191)], .agg [.lit (.int .u8 128), .lit (.int .u8 159)], .agg [.lit (.int .u8 144), .lit (.int .u8 191)], .agg [.lit (.int .u8 128), .lit (.int .u8 143)], .agg [.lit (.int .u8 0), .lit (.int .u8 0)], .agg [.lit (.int .u8 0), .lit (.int .u8 0)], .agg [.lit (.int .u8 0), .lit (.int .u8 0)], .agg [.lit (.int .u8 0), .lit (.int .u8 0)], .agg [.lit (.int .u8 0), .lit (.int .u8 0)], .agg [.lit (.int .u8 0), .lit (.int .u8 0)], .agg [.lit (.int .u8 0), .lit (.int .u8 0)], .agg [.lit (.int .u8 0), .lit (.int .u8 0)], .agg [.lit (.int .u8 0), .lit (.int .u8 0)], .agg [.lit (.int .u8 0), .lit (.int .u8 0)], .agg [.lit (.int .u8 0), .lit (.int .u8 0)]]
/-- One of Go's own tables, pinned by name: the form's constant. -/
def laid_unicode_utf8_first : DataW Unit := Go.Pinned.utf8First

/-- 'postroomlaw.RuleFlags': WHATEVER THE INPUT: true; the input reads as it did. -/
def ruleFlagsSpec : ChangeSpec := { name := "ruleFlags", fn := fun _ => fun
  | [d] => { results := [.lit (.bool true)], args := [d] }
  | _ => none }
def ruleFlagsRow : OpenClaim := { program := "ytioemcfadniokaadoor", sum := "6222d9c862812585d4b500db5365a02d2bff737baa97bfc107192e2dc8ab58c5", func := "postroom/postroomlaw.RuleFlags", spec := "ruleFlags", named := ["postroom/rule.names"], apart := false, laid := [("postroom/rule.names", laid_postroom_rule_names)] }
def RuleFlagsSaid : Prop := ruleFlagsRow.holds Tryd.pinned (OpenSpec.ofChange ruleFlagsSpec)

/-- ITS FALSE NEIGHBOUR: 'it returns false'. Refute it at one input. -/
def ruleFlagsWrong : ChangeSpec := { name := "ruleFlags", fn := fun _ => fun
  | [d] => { results := [.lit (.bool false)], args := [d] }
  | _ => none }
def RuleFlagsWrongFalsely : Prop := ruleFlagsRow.holds Tryd.pinned (OpenSpec.ofChange ruleFlagsWrong)

/-- 'postroomlaw.WhoChecks': WHATEVER THE INPUT: true; the input reads as it did. -/
def whoChecksSpec : ChangeSpec := { name := "whoChecks", fn := fun _ => fun
  | [d] => { results := [.lit (.bool true)], args := [d] }
  | _ => none }
def whoChecksRow : OpenClaim := { program := "ytioemcfadniokaadoor", sum := "6222d9c862812585d4b500db5365a02d2bff737baa97bfc107192e2dc8ab58c5", func := "postroom/postroomlaw.WhoChecks", spec := "whoChecks", inPlace := ["internal/bytealg.CountString", "internal/bytealg.IndexByteString", "internal/bytealg.IndexString"], named := ["unicode/utf8.first", "unicode/utf8.acceptRanges", "internal/bytealg.MaxLen"], apart := false, laid := [("unicode/utf8.acceptRanges", laid_unicode_utf8_acceptRanges), ("unicode/utf8.first", laid_unicode_utf8_first)] }
def WhoChecksSaid : Prop := whoChecksRow.holds Tryd.pinned (OpenSpec.ofChange whoChecksSpec)

/-- ITS FALSE NEIGHBOUR: 'it returns false'. Refute it at one input. -/
def whoChecksWrong : ChangeSpec := { name := "whoChecks", fn := fun _ => fun
  | [d] => { results := [.lit (.bool false)], args := [d] }
  | _ => none }
def WhoChecksWrongFalsely : Prop := whoChecksRow.holds Tryd.pinned (OpenSpec.ofChange whoChecksWrong)

/-- 'postroomlaw.WhoParts': WHATEVER THE INPUT: true; the input reads as it did. -/
def whoPartsSpec : ChangeSpec := { name := "whoParts", fn := fun _ => fun
  | [d1, d2] => { results := [.lit (.bool true)], args := [d1, d2] }
  | _ => none }
def whoPartsRow : OpenClaim := { program := "ytioemcfadniokaadoor", sum := "6222d9c862812585d4b500db5365a02d2bff737baa97bfc107192e2dc8ab58c5", func := "postroom/postroomlaw.WhoParts", spec := "whoParts", inPlace := ["internal/bytealg.CountString", "internal/bytealg.IndexByteString", "internal/bytealg.IndexString"], named := ["unicode/utf8.first", "unicode/utf8.acceptRanges", "internal/bytealg.MaxLen"], apart := false, laid := [("unicode/utf8.acceptRanges", laid_unicode_utf8_acceptRanges), ("unicode/utf8.first", laid_unicode_utf8_first)] }
def WhoPartsSaid : Prop := whoPartsRow.holds Tryd.pinned (OpenSpec.ofChange whoPartsSpec)

/-- ITS FALSE NEIGHBOUR: 'it returns false'. Refute it at one input. -/
def whoPartsWrong : ChangeSpec := { name := "whoParts", fn := fun _ => fun
  | [d1, d2] => { results := [.lit (.bool false)], args := [d1, d2] }
  | _ => none }
def WhoPartsWrongFalsely : Prop := whoPartsRow.holds Tryd.pinned (OpenSpec.ofChange whoPartsWrong)

/- THE SECOND FORM. 'bulk': how many values and letters a reading holds, each counted each time it is reached (what is shared counts as often as it is met; a slice's spare places count too). A statement '..UptoSaid' is the law's where the arguments, and the package variables that the reading takes, are together of bulk at most 1048576: NARROWER than '..Said'. Prove '..Said' where nothing that the law and all that it calls make is longer than what came in: it says more and counts as full. Else prove '..UptoSaid'. A law counts once. -/
mutual
def uptoBulk {H : Type} : DataW H → Nat
  | .lit (.string bytes) => bytes.length + 1
  | .lit _ => 1
  | .nil => 1
  | .ptr d => uptoBulk d + 1
  | .slice elems spare => uptoBulkAll elems + uptoBulkAll spare + 1
  | .agg parts => uptoBulkAll parts + 1
  | .iface _ d => uptoBulk d + 1
  | .map entries => uptoBulkEntries entries + 1
  | .held _ => 1
def uptoBulkAll {H : Type} : List (DataW H) → Nat
  | [] => 0
  | d :: r => uptoBulk d + uptoBulkAll r
def uptoBulkEntries {H : Type} : List (Lit × DataW H) → Nat
  | [] => 0
  | x :: r => uptoBulkEntry x + uptoBulkEntries r
def uptoBulkEntry {H : Type} : Lit × DataW H → Nat
  | (.string bytes, d) => bytes.length + uptoBulk d + 1
  | (_, d) => uptoBulk d + 1
 end
def uptoSmall : (H : Type) → List (DataW H) → Bool := fun _ ds => decide (uptoBulkAll ds ≤ 1048576)
def OpenSpec.upto (s : _root_.Go.ChangeSpec) : _root_.Go.OpenSpec := { _root_.Go.OpenSpec.ofChange s with cond := some uptoSmall }

/-- 'postroomlaw.RuleFlags', WHERE WHAT IT READS IS OF BULK AT MOST 1048576: true; the input reads as it did. -/
def ruleFlagsUptoRow : OpenClaim := { program := "ytioemcfadniokaadoor", sum := "6222d9c862812585d4b500db5365a02d2bff737baa97bfc107192e2dc8ab58c5", func := "postroom/postroomlaw.RuleFlags", spec := "ruleFlags", named := ["postroom/rule.names"], apart := false, laid := [("postroom/rule.names", laid_postroom_rule_names)], narrowed := true }
def RuleFlagsUptoSaid : Prop := ruleFlagsUptoRow.holds Tryd.pinned (OpenSpec.upto ruleFlagsSpec)

/-- 'postroomlaw.WhoChecks', WHERE WHAT IT READS IS OF BULK AT MOST 1048576: true; the input reads as it did. -/
def whoChecksUptoRow : OpenClaim := { program := "ytioemcfadniokaadoor", sum := "6222d9c862812585d4b500db5365a02d2bff737baa97bfc107192e2dc8ab58c5", func := "postroom/postroomlaw.WhoChecks", spec := "whoChecks", inPlace := ["internal/bytealg.CountString", "internal/bytealg.IndexByteString", "internal/bytealg.IndexString"], named := ["unicode/utf8.first", "unicode/utf8.acceptRanges", "internal/bytealg.MaxLen"], apart := false, laid := [("unicode/utf8.acceptRanges", laid_unicode_utf8_acceptRanges), ("unicode/utf8.first", laid_unicode_utf8_first)], narrowed := true }
def WhoChecksUptoSaid : Prop := whoChecksUptoRow.holds Tryd.pinned (OpenSpec.upto whoChecksSpec)

/-- 'postroomlaw.WhoParts', WHERE WHAT IT READS IS OF BULK AT MOST 1048576: true; the input reads as it did. -/
def whoPartsUptoRow : OpenClaim := { program := "ytioemcfadniokaadoor", sum := "6222d9c862812585d4b500db5365a02d2bff737baa97bfc107192e2dc8ab58c5", func := "postroom/postroomlaw.WhoParts", spec := "whoParts", inPlace := ["internal/bytealg.CountString", "internal/bytealg.IndexByteString", "internal/bytealg.IndexString"], named := ["unicode/utf8.first", "unicode/utf8.acceptRanges", "internal/bytealg.MaxLen"], apart := false, laid := [("unicode/utf8.acceptRanges", laid_unicode_utf8_acceptRanges), ("unicode/utf8.first", laid_unicode_utf8_first)], narrowed := true }
def WhoPartsUptoSaid : Prop := whoPartsUptoRow.holds Tryd.pinned (OpenSpec.upto whoPartsSpec)

end Rows
end Go.Proofs.YtioemcfadniokaaDoor
