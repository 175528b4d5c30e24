/-
  DERIVED. GIVEN WITH THE SEED: THE CARDS: each row of YtpeenmbonhijmaaDoorRows.lean that lists a variable, with what it lists TIED to the program's text (the seventh form; the later family's looks); each row that meets fmt, with fmt's text TOLD by the authors' own Lean function (tested against real Go, not proved from fmt's source: count such statements apart). THE CARD IS WHAT COUNTS. Prove the row's statement (the work); the ties are given (YtpeenmbonhijmaaDoorTie.lean); close each card by the builder's one call (the guide's Derived/Test/ToyasCard.lean, 'card_holds'). Laid BY PROGRAM, IN A SANDBOX (cutbox-door.mjs). By AI agents, Wed Nov 11 2026. No macro, syntax, notation, axiom, sorry.
-/
import Derived.Test.YtpeenmbonhijmaaDoorRows
import GoSem.ClaimSeven
namespace Go.Proofs.YtpeenmbonhijmaaDoor
namespace Rows

/-- THE TIED CARD OF 'postroomlaw.LmtpChecks'. -/
def lmtpChecksCard : Claim7 := { stood := { row := lmtpChecksRow, standIns := [], harness := (true, "eeec089dbc27bfe5a77471380d8aa4455ba7af735f852b9c1a8669e898a901d2"), looks := true }, kinds := [], alts := [], laidByText := true, laidKinds := [.data, .pinned], laidTests := true, laidLooks := .later }
def LmtpChecksCardSaid : Prop := Claim7.holds Tryd.pinned (.plain (OpenSpec.ofChange lmtpChecksSpec)) lmtpChecksCard

/-- THE TIED CARD OF 'postroomlaw.WhoLists'. -/
def whoListsCard : Claim7 := { stood := { row := whoListsRow, standIns := [], harness := (true, "eeec089dbc27bfe5a77471380d8aa4455ba7af735f852b9c1a8669e898a901d2"), looks := true }, kinds := [], alts := [], laidByText := true, laidKinds := [.data, .pinned], laidTests := true, laidLooks := .later }
def WhoListsCardSaid : Prop := Claim7.holds Tryd.pinned (.plain (OpenSpec.ofChange whoListsSpec)) whoListsCard

/-- THE TIED CARD OF 'postroomlaw.BoxForms'. -/
def boxFormsCard : Claim7 := { stood := { row := boxFormsRow, standIns := [], harness := (true, "eeec089dbc27bfe5a77471380d8aa4455ba7af735f852b9c1a8669e898a901d2"), looks := true }, kinds := [], alts := [], laidByText := true, laidKinds := [.data, .pinned], laidTests := true, laidLooks := .later }
def BoxFormsCardSaid : Prop := Claim7.holds Tryd.pinned (.plain (OpenSpec.ofChange boxFormsSpec)) boxFormsCard

/-- THE TIED CARD OF 'postroomlaw.LetterParses'. -/
def letterParsesCard : Claim7 := { stood := { row := letterParsesRow, standIns := [], harness := (true, "eeec089dbc27bfe5a77471380d8aa4455ba7af735f852b9c1a8669e898a901d2"), looks := true }, kinds := [], alts := [], laidByText := true, laidKinds := [.data, .pinned], laidTests := true, laidLooks := .later }
def LetterParsesCardSaid : Prop := Claim7.holds Tryd.pinned (.plain (OpenSpec.ofChange letterParsesSpec)) letterParsesCard

/-- THE TIED CARD OF 'postroomlaw.LetterChecks'. -/
def letterChecksCard : Claim7 := { stood := { row := letterChecksRow, standIns := [], harness := (true, "eeec089dbc27bfe5a77471380d8aa4455ba7af735f852b9c1a8669e898a901d2"), looks := true }, kinds := [], alts := [], laidByText := true, laidKinds := [.data, .pinned], laidTests := true, laidLooks := .later }
def LetterChecksCardSaid : Prop := Claim7.holds Tryd.pinned (.plain (OpenSpec.ofChange letterChecksSpec)) letterChecksCard

/-- THE TIED CARD OF 'postroomlaw.LetterShows'. -/
def letterShowsCard : Claim7 := { stood := { row := letterShowsRow, standIns := [], harness := (true, "eeec089dbc27bfe5a77471380d8aa4455ba7af735f852b9c1a8669e898a901d2"), looks := true }, kinds := [], alts := [], laidByText := true, laidKinds := [.data, .pinned], laidTests := true, laidLooks := .later }
def LetterShowsCardSaid : Prop := Claim7.holds Tryd.pinned (.plain (OpenSpec.ofChange letterShowsSpec)) letterShowsCard

/-- THE TIED CARD OF 'postroomlaw.LetterValues'. -/
def letterValuesCard : Claim7 := { stood := { row := letterValuesRow, standIns := [], harness := (true, "eeec089dbc27bfe5a77471380d8aa4455ba7af735f852b9c1a8669e898a901d2"), looks := true }, kinds := [], alts := [], laidByText := true, laidKinds := [.data, .pinned], laidTests := true, laidLooks := .later }
def LetterValuesCardSaid : Prop := Claim7.holds Tryd.pinned (.plain (OpenSpec.ofChange letterValuesSpec)) letterValuesCard

/-- THE TIED CARD OF 'postroomlaw.JudgeChecks'. -/
def judgeChecksCard : Claim7 := { stood := { row := judgeChecksRow, standIns := [], harness := (true, "eeec089dbc27bfe5a77471380d8aa4455ba7af735f852b9c1a8669e898a901d2"), looks := true }, kinds := [], alts := [], laidByText := true, laidKinds := [.data, .pinned], laidTests := true, laidLooks := .later }
def JudgeChecksCardSaid : Prop := Claim7.holds Tryd.pinned (.plain (OpenSpec.ofChange judgeChecksSpec)) judgeChecksCard

/-- THE TIED CARD OF 'postroomlaw.LmtpLines'. -/
def lmtpLinesCard : Claim7 := { stood := { row := lmtpLinesRow, standIns := [], harness := (true, "eeec089dbc27bfe5a77471380d8aa4455ba7af735f852b9c1a8669e898a901d2"), looks := true }, kinds := [], alts := [], laidByText := true, laidKinds := [.data, .pinned], laidTests := true, laidLooks := .later }
def LmtpLinesCardSaid : Prop := Claim7.holds Tryd.pinned (.plain (OpenSpec.ofChange lmtpLinesSpec)) lmtpLinesCard

/-- THE TIED CARD OF 'postroomlaw.TokenJoins'. -/
def tokenJoinsCard : Claim7 := { stood := { row := tokenJoinsRow, standIns := [], harness := (true, "eeec089dbc27bfe5a77471380d8aa4455ba7af735f852b9c1a8669e898a901d2"), looks := true }, kinds := [], alts := [], laidByText := true, laidKinds := [.data, .data, .data, .data, .pinned], laidTests := true, laidLooks := .later }
def TokenJoinsCardSaid : Prop := Claim7.holds Tryd.pinned (.plain (OpenSpec.ofChange tokenJoinsSpec)) tokenJoinsCard

/-- THE TIED CARD OF 'postroomlaw.TokenCuts'. -/
def tokenCutsCard : Claim7 := { stood := { row := tokenCutsRow, standIns := [], harness := (true, "eeec089dbc27bfe5a77471380d8aa4455ba7af735f852b9c1a8669e898a901d2"), looks := true }, kinds := [], alts := [], laidByText := true, laidKinds := [.data, .data, .data, .sentinel, .sentinel], laidTests := true, laidLooks := .later }
def TokenCutsCardSaid : Prop := Claim7.holds Tryd.pinned (.plain (OpenSpec.ofChange tokenCutsSpec)) tokenCutsCard

/-- THE TIED CARD OF 'postroomlaw.BoxSizes'. -/
def boxSizesCard : Claim7 := { stood := { row := boxSizesRow, standIns := [], harness := (true, "eeec089dbc27bfe5a77471380d8aa4455ba7af735f852b9c1a8669e898a901d2"), looks := true }, kinds := [], alts := [], laidByText := true, laidKinds := [.data, .pinned], laidTests := true, laidLooks := .later }
def BoxSizesCardSaid : Prop := Claim7.holds Tryd.pinned (.plain (OpenSpec.ofChange boxSizesSpec)) boxSizesCard

/-- THE SECOND FORM's CARD OF 'postroomlaw.LmtpChecks'. -/
def lmtpChecksUptoCard : Claim7 := { stood := { row := lmtpChecksUptoRow, standIns := [], harness := (true, "eeec089dbc27bfe5a77471380d8aa4455ba7af735f852b9c1a8669e898a901d2"), looks := true }, kinds := [], alts := [], laidByText := true, laidKinds := [.data, .pinned], laidTests := true, laidLooks := .later }
def LmtpChecksUptoCardSaid : Prop := Claim7.holds Tryd.pinned (.plain (OpenSpec.upto lmtpChecksSpec)) lmtpChecksUptoCard

/-- THE SECOND FORM's CARD OF 'postroomlaw.WhoLists'. -/
def whoListsUptoCard : Claim7 := { stood := { row := whoListsUptoRow, standIns := [], harness := (true, "eeec089dbc27bfe5a77471380d8aa4455ba7af735f852b9c1a8669e898a901d2"), looks := true }, kinds := [], alts := [], laidByText := true, laidKinds := [.data, .pinned], laidTests := true, laidLooks := .later }
def WhoListsUptoCardSaid : Prop := Claim7.holds Tryd.pinned (.plain (OpenSpec.upto whoListsSpec)) whoListsUptoCard

/-- THE SECOND FORM's CARD OF 'postroomlaw.BoxForms'. -/
def boxFormsUptoCard : Claim7 := { stood := { row := boxFormsUptoRow, standIns := [], harness := (true, "eeec089dbc27bfe5a77471380d8aa4455ba7af735f852b9c1a8669e898a901d2"), looks := true }, kinds := [], alts := [], laidByText := true, laidKinds := [.data, .pinned], laidTests := true, laidLooks := .later }
def BoxFormsUptoCardSaid : Prop := Claim7.holds Tryd.pinned (.plain (OpenSpec.upto boxFormsSpec)) boxFormsUptoCard

/-- THE SECOND FORM's CARD OF 'postroomlaw.LetterParses'. -/
def letterParsesUptoCard : Claim7 := { stood := { row := letterParsesUptoRow, standIns := [], harness := (true, "eeec089dbc27bfe5a77471380d8aa4455ba7af735f852b9c1a8669e898a901d2"), looks := true }, kinds := [], alts := [], laidByText := true, laidKinds := [.data, .pinned], laidTests := true, laidLooks := .later }
def LetterParsesUptoCardSaid : Prop := Claim7.holds Tryd.pinned (.plain (OpenSpec.upto letterParsesSpec)) letterParsesUptoCard

/-- THE SECOND FORM's CARD OF 'postroomlaw.LetterChecks'. -/
def letterChecksUptoCard : Claim7 := { stood := { row := letterChecksUptoRow, standIns := [], harness := (true, "eeec089dbc27bfe5a77471380d8aa4455ba7af735f852b9c1a8669e898a901d2"), looks := true }, kinds := [], alts := [], laidByText := true, laidKinds := [.data, .pinned], laidTests := true, laidLooks := .later }
def LetterChecksUptoCardSaid : Prop := Claim7.holds Tryd.pinned (.plain (OpenSpec.upto letterChecksSpec)) letterChecksUptoCard

/-- THE SECOND FORM's CARD OF 'postroomlaw.LetterShows'. -/
def letterShowsUptoCard : Claim7 := { stood := { row := letterShowsUptoRow, standIns := [], harness := (true, "eeec089dbc27bfe5a77471380d8aa4455ba7af735f852b9c1a8669e898a901d2"), looks := true }, kinds := [], alts := [], laidByText := true, laidKinds := [.data, .pinned], laidTests := true, laidLooks := .later }
def LetterShowsUptoCardSaid : Prop := Claim7.holds Tryd.pinned (.plain (OpenSpec.upto letterShowsSpec)) letterShowsUptoCard

/-- THE SECOND FORM's CARD OF 'postroomlaw.LetterValues'. -/
def letterValuesUptoCard : Claim7 := { stood := { row := letterValuesUptoRow, standIns := [], harness := (true, "eeec089dbc27bfe5a77471380d8aa4455ba7af735f852b9c1a8669e898a901d2"), looks := true }, kinds := [], alts := [], laidByText := true, laidKinds := [.data, .pinned], laidTests := true, laidLooks := .later }
def LetterValuesUptoCardSaid : Prop := Claim7.holds Tryd.pinned (.plain (OpenSpec.upto letterValuesSpec)) letterValuesUptoCard

/-- THE SECOND FORM's CARD OF 'postroomlaw.JudgeChecks'. -/
def judgeChecksUptoCard : Claim7 := { stood := { row := judgeChecksUptoRow, standIns := [], harness := (true, "eeec089dbc27bfe5a77471380d8aa4455ba7af735f852b9c1a8669e898a901d2"), looks := true }, kinds := [], alts := [], laidByText := true, laidKinds := [.data, .pinned], laidTests := true, laidLooks := .later }
def JudgeChecksUptoCardSaid : Prop := Claim7.holds Tryd.pinned (.plain (OpenSpec.upto judgeChecksSpec)) judgeChecksUptoCard

/-- THE SECOND FORM's CARD OF 'postroomlaw.LmtpLines'. -/
def lmtpLinesUptoCard : Claim7 := { stood := { row := lmtpLinesUptoRow, standIns := [], harness := (true, "eeec089dbc27bfe5a77471380d8aa4455ba7af735f852b9c1a8669e898a901d2"), looks := true }, kinds := [], alts := [], laidByText := true, laidKinds := [.data, .pinned], laidTests := true, laidLooks := .later }
def LmtpLinesUptoCardSaid : Prop := Claim7.holds Tryd.pinned (.plain (OpenSpec.upto lmtpLinesSpec)) lmtpLinesUptoCard

/-- THE SECOND FORM's CARD OF 'postroomlaw.TokenJoins'. -/
def tokenJoinsUptoCard : Claim7 := { stood := { row := tokenJoinsUptoRow, standIns := [], harness := (true, "eeec089dbc27bfe5a77471380d8aa4455ba7af735f852b9c1a8669e898a901d2"), looks := true }, kinds := [], alts := [], laidByText := true, laidKinds := [.data, .data, .data, .data, .pinned], laidTests := true, laidLooks := .later }
def TokenJoinsUptoCardSaid : Prop := Claim7.holds Tryd.pinned (.plain (OpenSpec.upto tokenJoinsSpec)) tokenJoinsUptoCard

/-- THE SECOND FORM's CARD OF 'postroomlaw.TokenCuts'. -/
def tokenCutsUptoCard : Claim7 := { stood := { row := tokenCutsUptoRow, standIns := [], harness := (true, "eeec089dbc27bfe5a77471380d8aa4455ba7af735f852b9c1a8669e898a901d2"), looks := true }, kinds := [], alts := [], laidByText := true, laidKinds := [.data, .data, .data, .sentinel, .sentinel], laidTests := true, laidLooks := .later }
def TokenCutsUptoCardSaid : Prop := Claim7.holds Tryd.pinned (.plain (OpenSpec.upto tokenCutsSpec)) tokenCutsUptoCard

/-- THE SECOND FORM's CARD OF 'postroomlaw.BoxSizes'. -/
def boxSizesUptoCard : Claim7 := { stood := { row := boxSizesUptoRow, standIns := [], harness := (true, "eeec089dbc27bfe5a77471380d8aa4455ba7af735f852b9c1a8669e898a901d2"), looks := true }, kinds := [], alts := [], laidByText := true, laidKinds := [.data, .pinned], laidTests := true, laidLooks := .later }
def BoxSizesUptoCardSaid : Prop := Claim7.holds Tryd.pinned (.plain (OpenSpec.upto boxSizesSpec)) boxSizesUptoCard
end Rows
end Go.Proofs.YtpeenmbonhijmaaDoor
