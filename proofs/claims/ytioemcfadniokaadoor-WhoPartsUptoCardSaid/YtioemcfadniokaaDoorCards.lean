/-
  DERIVED. GIVEN WITH THE SEED: THE CARDS: each row of YtioemcfadniokaaDoorRows.lean that lists a variable, with what it lists TIED to the program's text (the seventh form; the later family's looks); each row that meets fmt, with fmt's text TOLD by the authors' own Lean function (tested against real Go, not proved from fmt's source: count such statements apart). THE CARD IS WHAT COUNTS. Prove the row's statement (the work); the ties are given (YtioemcfadniokaaDoorTie.lean); close each card by the builder's one call (the guide's Derived/Test/ToyasCard.lean, 'card_holds'). Laid BY PROGRAM, IN A SANDBOX (cutbox-door.mjs). By AI agents, Wed Nov 11 2026. No macro, syntax, notation, axiom, sorry.
-/
import Derived.Test.YtioemcfadniokaaDoorRows
import GoSem.ClaimSeven
namespace Go.Proofs.YtioemcfadniokaaDoor
namespace Rows

/-- THE TIED CARD OF 'postroomlaw.RuleFlags'. -/
def ruleFlagsCard : Claim7 := { stood := { row := ruleFlagsRow, standIns := [], harness := (true, "abd821b8166192ac1a87ecb8003eecf46972e5d1a30cc40ccb2c32d08dfbb656"), looks := false }, kinds := [], alts := [], laidByText := true, laidKinds := [.widerDeep], laidTests := true, laidLooks := .later }
def RuleFlagsCardSaid : Prop := Claim7.holds Tryd.pinned (.plain (OpenSpec.ofChange ruleFlagsSpec)) ruleFlagsCard

/-- THE TIED CARD OF 'postroomlaw.WhoChecks'. -/
def whoChecksCard : Claim7 := { stood := { row := whoChecksRow, standIns := [], harness := (true, "abd821b8166192ac1a87ecb8003eecf46972e5d1a30cc40ccb2c32d08dfbb656"), looks := false }, kinds := [], alts := [], laidByText := true, laidKinds := [.data, .pinned], laidTests := true, laidLooks := .later }
def WhoChecksCardSaid : Prop := Claim7.holds Tryd.pinned (.plain (OpenSpec.ofChange whoChecksSpec)) whoChecksCard

/-- THE TIED CARD OF 'postroomlaw.WhoParts'. -/
def whoPartsCard : Claim7 := { stood := { row := whoPartsRow, standIns := [], harness := (true, "abd821b8166192ac1a87ecb8003eecf46972e5d1a30cc40ccb2c32d08dfbb656"), looks := false }, kinds := [], alts := [], laidByText := true, laidKinds := [.data, .pinned], laidTests := true, laidLooks := .later }
def WhoPartsCardSaid : Prop := Claim7.holds Tryd.pinned (.plain (OpenSpec.ofChange whoPartsSpec)) whoPartsCard

/-- THE SECOND FORM's CARD OF 'postroomlaw.RuleFlags'. -/
def ruleFlagsUptoCard : Claim7 := { stood := { row := ruleFlagsUptoRow, standIns := [], harness := (true, "abd821b8166192ac1a87ecb8003eecf46972e5d1a30cc40ccb2c32d08dfbb656"), looks := false }, kinds := [], alts := [], laidByText := true, laidKinds := [.widerDeep], laidTests := true, laidLooks := .later }
def RuleFlagsUptoCardSaid : Prop := Claim7.holds Tryd.pinned (.plain (OpenSpec.upto ruleFlagsSpec)) ruleFlagsUptoCard

/-- THE SECOND FORM's CARD OF 'postroomlaw.WhoChecks'. -/
def whoChecksUptoCard : Claim7 := { stood := { row := whoChecksUptoRow, standIns := [], harness := (true, "abd821b8166192ac1a87ecb8003eecf46972e5d1a30cc40ccb2c32d08dfbb656"), looks := false }, kinds := [], alts := [], laidByText := true, laidKinds := [.data, .pinned], laidTests := true, laidLooks := .later }
def WhoChecksUptoCardSaid : Prop := Claim7.holds Tryd.pinned (.plain (OpenSpec.upto whoChecksSpec)) whoChecksUptoCard

/-- THE SECOND FORM's CARD OF 'postroomlaw.WhoParts'. -/
def whoPartsUptoCard : Claim7 := { stood := { row := whoPartsUptoRow, standIns := [], harness := (true, "abd821b8166192ac1a87ecb8003eecf46972e5d1a30cc40ccb2c32d08dfbb656"), looks := false }, kinds := [], alts := [], laidByText := true, laidKinds := [.data, .pinned], laidTests := true, laidLooks := .later }
def WhoPartsUptoCardSaid : Prop := Claim7.holds Tryd.pinned (.plain (OpenSpec.upto whoPartsSpec)) whoPartsUptoCard
end Rows
end Go.Proofs.YtioemcfadniokaaDoor
