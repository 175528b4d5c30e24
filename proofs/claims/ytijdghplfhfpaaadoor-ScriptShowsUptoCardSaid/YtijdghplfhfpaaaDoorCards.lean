/-
  DERIVED. GIVEN WITH THE SEED: THE CARDS: each row of YtijdghplfhfpaaaDoorRows.lean that lists a variable, with what it lists TIED to the program's text (the seventh form; the later family's looks); each row that meets fmt, with fmt's text TOLD by the authors' own Lean function (tested against real Go, not proved from fmt's source: count such statements apart). THE CARD IS WHAT COUNTS. Prove the row's statement (the work); the ties are given (YtijdghplfhfpaaaDoorTie.lean); close each card by the builder's one call (the guide's Derived/Test/ToyasCard.lean, 'card_holds'). Laid BY PROGRAM, IN A SANDBOX (cutbox-door.mjs). By AI agents, Wed Nov 11 2026. No macro, syntax, notation, axiom, sorry.
-/
import Derived.Test.YtijdghplfhfpaaaDoorRows
import GoSem.ClaimSeven
namespace Go.Proofs.YtijdghplfhfpaaaDoor
namespace Rows

/-- THE TIED CARD OF 'postroomlaw.BoxChecks'. -/
def boxChecksCard : Claim7 := { stood := { row := boxChecksRow, standIns := [], harness := (true, "24cf323c0f9b073791a7ff734a1e101fa9283fbfc49c6b89d30ae6cd3a951441"), looks := true }, kinds := [], alts := [], laidByText := true, laidKinds := [.data, .pinned], laidTests := true, laidLooks := .later }
def BoxChecksCardSaid : Prop := Claim7.holds Tryd.pinned (.plain (OpenSpec.ofChange boxChecksSpec)) boxChecksCard

/-- THE TIED CARD OF 'postroomlaw.BoxSizes'. -/
def boxSizesCard : Claim7 := { stood := { row := boxSizesRow, standIns := [], harness := (true, "24cf323c0f9b073791a7ff734a1e101fa9283fbfc49c6b89d30ae6cd3a951441"), looks := true }, kinds := [], alts := [], laidByText := true, laidKinds := [.data, .pinned], laidTests := true, laidLooks := .later }
def BoxSizesCardSaid : Prop := Claim7.holds Tryd.pinned (.plain (OpenSpec.ofChange boxSizesSpec)) boxSizesCard

/-- THE TIED CARD OF 'postroomlaw.BoxAlls'. -/
def boxAllsCard : Claim7 := { stood := { row := boxAllsRow, standIns := [], harness := (true, "24cf323c0f9b073791a7ff734a1e101fa9283fbfc49c6b89d30ae6cd3a951441"), looks := true }, kinds := [], alts := [], laidByText := true, laidKinds := [.data, .pinned], laidTests := true, laidLooks := .later }
def BoxAllsCardSaid : Prop := Claim7.holds Tryd.pinned (.plain (OpenSpec.ofChange boxAllsSpec)) boxAllsCard

/-- THE TIED CARD OF 'postroomlaw.BoxApplies'. -/
def boxAppliesCard : Claim7 := { stood := { row := boxAppliesRow, standIns := [], harness := (true, "24cf323c0f9b073791a7ff734a1e101fa9283fbfc49c6b89d30ae6cd3a951441"), looks := true }, kinds := [], alts := [], laidByText := true, laidKinds := [.data, .pinned], laidTests := true, laidLooks := .later }
def BoxAppliesCardSaid : Prop := Claim7.holds Tryd.pinned (.plain (OpenSpec.ofChange boxAppliesSpec)) boxAppliesCard

/-- THE TIED CARD OF 'postroomlaw.BookFolds'. -/
def bookFoldsCard : Claim7 := { stood := { row := bookFoldsRow, standIns := [], harness := (true, "24cf323c0f9b073791a7ff734a1e101fa9283fbfc49c6b89d30ae6cd3a951441"), looks := true }, kinds := [], alts := [], laidByText := true, laidKinds := [.data, .pinned], laidTests := true, laidLooks := .later }
def BookFoldsCardSaid : Prop := Claim7.holds Tryd.pinned (.plain (OpenSpec.ofChange bookFoldsSpec)) bookFoldsCard

/-- THE TIED CARD OF 'postroomlaw.LmtpLines'. -/
def lmtpLinesCard : Claim7 := { stood := { row := lmtpLinesRow, standIns := [], harness := (true, "24cf323c0f9b073791a7ff734a1e101fa9283fbfc49c6b89d30ae6cd3a951441"), looks := true }, kinds := [], alts := [], laidByText := true, laidKinds := [.data, .pinned], laidTests := true, laidLooks := .later }
def LmtpLinesCardSaid : Prop := Claim7.holds Tryd.pinned (.plain (OpenSpec.ofChange lmtpLinesSpec)) lmtpLinesCard

/-- THE TIED CARD OF 'postroomlaw.ScriptChecks'. -/
def scriptChecksCard : Claim7 := { stood := { row := scriptChecksRow, standIns := [], harness := (true, "24cf323c0f9b073791a7ff734a1e101fa9283fbfc49c6b89d30ae6cd3a951441"), looks := true }, kinds := [], alts := [], laidByText := true, laidKinds := [.widerDeep, .widerDeep, .widerDeep, .widerDeep], laidTests := true, laidLooks := .later }
def ScriptChecksCardSaid : Prop := Claim7.holds Tryd.pinned (.plain (OpenSpec.ofChange scriptChecksSpec)) scriptChecksCard

/-- THE TIED CARD OF 'postroomlaw.ScriptShows'. -/
def scriptShowsCard : Claim7 := { stood := { row := scriptShowsRow, standIns := [], harness := (true, "24cf323c0f9b073791a7ff734a1e101fa9283fbfc49c6b89d30ae6cd3a951441"), looks := true }, kinds := [], alts := [], laidByText := true, laidKinds := [.widerDeep, .widerDeep, .widerDeep, .widerDeep], laidTests := true, laidLooks := .later }
def ScriptShowsCardSaid : Prop := Claim7.holds Tryd.pinned (.plain (OpenSpec.ofChange scriptShowsSpec)) scriptShowsCard

/-- THE TIED CARD OF 'postroomlaw.ScriptParses'. -/
def scriptParsesCard : Claim7 := { stood := { row := scriptParsesRow, standIns := [], harness := (true, "24cf323c0f9b073791a7ff734a1e101fa9283fbfc49c6b89d30ae6cd3a951441"), looks := true }, kinds := [], alts := [], laidByText := true, laidKinds := [.widerDeep, .widerDeep, .widerDeep, .widerDeep], laidTests := true, laidLooks := .later }
def ScriptParsesCardSaid : Prop := Claim7.holds Tryd.pinned (.plain (OpenSpec.ofChange scriptParsesSpec)) scriptParsesCard

/-- THE TIED CARD OF 'postroomlaw.RuleChecks'. -/
def ruleChecksCard : Claim7 := { stood := { row := ruleChecksRow, standIns := [], harness := (true, "24cf323c0f9b073791a7ff734a1e101fa9283fbfc49c6b89d30ae6cd3a951441"), looks := true }, kinds := [], alts := [], laidByText := true, laidKinds := [.data, .widerDeep, .widerDeep, .widerDeep, .widerDeep, .widerDeep, .widerDeep, .pinned], laidTests := true, laidLooks := .later }
def RuleChecksCardSaid : Prop := Claim7.holds Tryd.pinned (.plain (OpenSpec.ofChange ruleChecksSpec)) ruleChecksCard

/-- THE SECOND FORM's CARD OF 'postroomlaw.BoxChecks'. -/
def boxChecksUptoCard : Claim7 := { stood := { row := boxChecksUptoRow, standIns := [], harness := (true, "24cf323c0f9b073791a7ff734a1e101fa9283fbfc49c6b89d30ae6cd3a951441"), looks := true }, kinds := [], alts := [], laidByText := true, laidKinds := [.data, .pinned], laidTests := true, laidLooks := .later }
def BoxChecksUptoCardSaid : Prop := Claim7.holds Tryd.pinned (.plain (OpenSpec.upto boxChecksSpec)) boxChecksUptoCard

/-- THE SECOND FORM's CARD OF 'postroomlaw.BoxSizes'. -/
def boxSizesUptoCard : Claim7 := { stood := { row := boxSizesUptoRow, standIns := [], harness := (true, "24cf323c0f9b073791a7ff734a1e101fa9283fbfc49c6b89d30ae6cd3a951441"), looks := true }, kinds := [], alts := [], laidByText := true, laidKinds := [.data, .pinned], laidTests := true, laidLooks := .later }
def BoxSizesUptoCardSaid : Prop := Claim7.holds Tryd.pinned (.plain (OpenSpec.upto boxSizesSpec)) boxSizesUptoCard

/-- THE SECOND FORM's CARD OF 'postroomlaw.BoxAlls'. -/
def boxAllsUptoCard : Claim7 := { stood := { row := boxAllsUptoRow, standIns := [], harness := (true, "24cf323c0f9b073791a7ff734a1e101fa9283fbfc49c6b89d30ae6cd3a951441"), looks := true }, kinds := [], alts := [], laidByText := true, laidKinds := [.data, .pinned], laidTests := true, laidLooks := .later }
def BoxAllsUptoCardSaid : Prop := Claim7.holds Tryd.pinned (.plain (OpenSpec.upto boxAllsSpec)) boxAllsUptoCard

/-- THE SECOND FORM's CARD OF 'postroomlaw.BoxApplies'. -/
def boxAppliesUptoCard : Claim7 := { stood := { row := boxAppliesUptoRow, standIns := [], harness := (true, "24cf323c0f9b073791a7ff734a1e101fa9283fbfc49c6b89d30ae6cd3a951441"), looks := true }, kinds := [], alts := [], laidByText := true, laidKinds := [.data, .pinned], laidTests := true, laidLooks := .later }
def BoxAppliesUptoCardSaid : Prop := Claim7.holds Tryd.pinned (.plain (OpenSpec.upto boxAppliesSpec)) boxAppliesUptoCard

/-- THE SECOND FORM's CARD OF 'postroomlaw.BookFolds'. -/
def bookFoldsUptoCard : Claim7 := { stood := { row := bookFoldsUptoRow, standIns := [], harness := (true, "24cf323c0f9b073791a7ff734a1e101fa9283fbfc49c6b89d30ae6cd3a951441"), looks := true }, kinds := [], alts := [], laidByText := true, laidKinds := [.data, .pinned], laidTests := true, laidLooks := .later }
def BookFoldsUptoCardSaid : Prop := Claim7.holds Tryd.pinned (.plain (OpenSpec.upto bookFoldsSpec)) bookFoldsUptoCard

/-- THE SECOND FORM's CARD OF 'postroomlaw.LmtpLines'. -/
def lmtpLinesUptoCard : Claim7 := { stood := { row := lmtpLinesUptoRow, standIns := [], harness := (true, "24cf323c0f9b073791a7ff734a1e101fa9283fbfc49c6b89d30ae6cd3a951441"), looks := true }, kinds := [], alts := [], laidByText := true, laidKinds := [.data, .pinned], laidTests := true, laidLooks := .later }
def LmtpLinesUptoCardSaid : Prop := Claim7.holds Tryd.pinned (.plain (OpenSpec.upto lmtpLinesSpec)) lmtpLinesUptoCard

/-- THE SECOND FORM's CARD OF 'postroomlaw.ScriptChecks'. -/
def scriptChecksUptoCard : Claim7 := { stood := { row := scriptChecksUptoRow, standIns := [], harness := (true, "24cf323c0f9b073791a7ff734a1e101fa9283fbfc49c6b89d30ae6cd3a951441"), looks := true }, kinds := [], alts := [], laidByText := true, laidKinds := [.widerDeep, .widerDeep, .widerDeep, .widerDeep], laidTests := true, laidLooks := .later }
def ScriptChecksUptoCardSaid : Prop := Claim7.holds Tryd.pinned (.plain (OpenSpec.upto scriptChecksSpec)) scriptChecksUptoCard

/-- THE SECOND FORM's CARD OF 'postroomlaw.ScriptShows'. -/
def scriptShowsUptoCard : Claim7 := { stood := { row := scriptShowsUptoRow, standIns := [], harness := (true, "24cf323c0f9b073791a7ff734a1e101fa9283fbfc49c6b89d30ae6cd3a951441"), looks := true }, kinds := [], alts := [], laidByText := true, laidKinds := [.widerDeep, .widerDeep, .widerDeep, .widerDeep], laidTests := true, laidLooks := .later }
def ScriptShowsUptoCardSaid : Prop := Claim7.holds Tryd.pinned (.plain (OpenSpec.upto scriptShowsSpec)) scriptShowsUptoCard

/-- THE SECOND FORM's CARD OF 'postroomlaw.ScriptParses'. -/
def scriptParsesUptoCard : Claim7 := { stood := { row := scriptParsesUptoRow, standIns := [], harness := (true, "24cf323c0f9b073791a7ff734a1e101fa9283fbfc49c6b89d30ae6cd3a951441"), looks := true }, kinds := [], alts := [], laidByText := true, laidKinds := [.widerDeep, .widerDeep, .widerDeep, .widerDeep], laidTests := true, laidLooks := .later }
def ScriptParsesUptoCardSaid : Prop := Claim7.holds Tryd.pinned (.plain (OpenSpec.upto scriptParsesSpec)) scriptParsesUptoCard

/-- THE SECOND FORM's CARD OF 'postroomlaw.RuleChecks'. -/
def ruleChecksUptoCard : Claim7 := { stood := { row := ruleChecksUptoRow, standIns := [], harness := (true, "24cf323c0f9b073791a7ff734a1e101fa9283fbfc49c6b89d30ae6cd3a951441"), looks := true }, kinds := [], alts := [], laidByText := true, laidKinds := [.data, .widerDeep, .widerDeep, .widerDeep, .widerDeep, .widerDeep, .widerDeep, .pinned], laidTests := true, laidLooks := .later }
def RuleChecksUptoCardSaid : Prop := Claim7.holds Tryd.pinned (.plain (OpenSpec.upto ruleChecksSpec)) ruleChecksUptoCard
end Rows
end Go.Proofs.YtijdghplfhfpaaaDoor
