/-
  DERIVED. GIVEN WITH THE SEED: THE CARDS: each row of YtdffojjimoilgaaDoorRows.lean that lists a variable, with what it lists TIED to the program's text (the seventh form; the later family's looks); each row that meets fmt, with fmt's text TOLD by the authors' own Lean function (tested against real Go, not proved from fmt's source: count such statements apart). THE CARD IS WHAT COUNTS. Prove the row's statement (the work); the ties are given (YtdffojjimoilgaaDoorTie.lean); close each card by the builder's one call (the guide's Derived/Test/ToyasCard.lean, 'card_holds'). Laid BY PROGRAM, IN A SANDBOX (cutbox-door.mjs). By AI agents, Wed Nov 11 2026. No macro, syntax, notation, axiom, sorry.
-/
import Derived.Test.YtdffojjimoilgaaDoorRows
import GoSem.ClaimSeven
namespace Go.Proofs.YtdffojjimoilgaaDoor
namespace Rows

/-- THE TIED CARD OF 'postroomlaw.BookChecks'. -/
def bookChecksCard : Claim7 := { stood := { row := bookChecksRow, standIns := [], harness := (true, "aa5f32a48c4cbb1fd1f5415a40a56a3282bd29b56213b841f8a038e60f735a73"), looks := true }, kinds := [], alts := [], laidByText := true, laidKinds := [.data, .pinned], laidTests := true, laidLooks := .later }
def BookChecksCardSaid : Prop := Claim7.holds Tryd.pinned (.plain (OpenSpec.ofChange bookChecksSpec)) bookChecksCard

/-- THE TIED CARD OF 'postroomlaw.BookEncodes'. -/
def bookEncodesCard : Claim7 := { stood := { row := bookEncodesRow, standIns := [], harness := (true, "aa5f32a48c4cbb1fd1f5415a40a56a3282bd29b56213b841f8a038e60f735a73"), looks := true }, kinds := [], alts := [], laidByText := true, laidKinds := [.data, .pinned], laidTests := true, laidLooks := .later }
def BookEncodesCardSaid : Prop := Claim7.holds Tryd.pinned (.plain (OpenSpec.ofChange bookEncodesSpec)) bookEncodesCard

/-- THE TIED CARD OF 'postroomlaw.BookDecodes'. -/
def bookDecodesCard : Claim7 := { stood := { row := bookDecodesRow, standIns := [], harness := (true, "aa5f32a48c4cbb1fd1f5415a40a56a3282bd29b56213b841f8a038e60f735a73"), looks := true }, kinds := [], alts := [], laidByText := true, laidKinds := [.data, .pinned], laidTests := true, laidLooks := .later }
def BookDecodesCardSaid : Prop := Claim7.holds Tryd.pinned (.plain (OpenSpec.ofChange bookDecodesSpec)) bookDecodesCard

/-- THE TIED CARD OF 'postroomlaw.BookAppends'. -/
def bookAppendsCard : Claim7 := { stood := { row := bookAppendsRow, standIns := [], harness := (true, "aa5f32a48c4cbb1fd1f5415a40a56a3282bd29b56213b841f8a038e60f735a73"), looks := true }, kinds := [], alts := [], laidByText := true, laidKinds := [.data, .pinned], laidTests := true, laidLooks := .later }
def BookAppendsCardSaid : Prop := Claim7.holds Tryd.pinned (.plain (OpenSpec.ofChange bookAppendsSpec)) bookAppendsCard

/-- THE TIED CARD OF 'postroomlaw.BookRecovers'. -/
def bookRecoversCard : Claim7 := { stood := { row := bookRecoversRow, standIns := [], harness := (true, "aa5f32a48c4cbb1fd1f5415a40a56a3282bd29b56213b841f8a038e60f735a73"), looks := true }, kinds := [], alts := [], laidByText := true, laidKinds := [.data, .pinned], laidTests := true, laidLooks := .later }
def BookRecoversCardSaid : Prop := Claim7.holds Tryd.pinned (.plain (OpenSpec.ofChange bookRecoversSpec)) bookRecoversCard

/-- THE TIED CARD OF 'postroomlaw.BookFolds'. -/
def bookFoldsCard : Claim7 := { stood := { row := bookFoldsRow, standIns := [], harness := (true, "aa5f32a48c4cbb1fd1f5415a40a56a3282bd29b56213b841f8a038e60f735a73"), looks := true }, kinds := [], alts := [], laidByText := true, laidKinds := [.data, .pinned], laidTests := true, laidLooks := .later }
def BookFoldsCardSaid : Prop := Claim7.holds Tryd.pinned (.plain (OpenSpec.ofChange bookFoldsSpec)) bookFoldsCard

/-- THE TIED CARD OF 'postroomlaw.BoxChecks'. -/
def boxChecksCard : Claim7 := { stood := { row := boxChecksRow, standIns := [], harness := (true, "aa5f32a48c4cbb1fd1f5415a40a56a3282bd29b56213b841f8a038e60f735a73"), looks := true }, kinds := [], alts := [], laidByText := true, laidKinds := [.data, .pinned], laidTests := true, laidLooks := .later }
def BoxChecksCardSaid : Prop := Claim7.holds Tryd.pinned (.plain (OpenSpec.ofChange boxChecksSpec)) boxChecksCard

/-- THE TIED CARD OF 'postroomlaw.BoxApplies'. -/
def boxAppliesCard : Claim7 := { stood := { row := boxAppliesRow, standIns := [], harness := (true, "aa5f32a48c4cbb1fd1f5415a40a56a3282bd29b56213b841f8a038e60f735a73"), looks := true }, kinds := [], alts := [], laidByText := true, laidKinds := [.data, .pinned], laidTests := true, laidLooks := .later }
def BoxAppliesCardSaid : Prop := Claim7.holds Tryd.pinned (.plain (OpenSpec.ofChange boxAppliesSpec)) boxAppliesCard

/-- THE TIED CARD OF 'postroomlaw.BoxAlls'. -/
def boxAllsCard : Claim7 := { stood := { row := boxAllsRow, standIns := [], harness := (true, "aa5f32a48c4cbb1fd1f5415a40a56a3282bd29b56213b841f8a038e60f735a73"), looks := true }, kinds := [], alts := [], laidByText := true, laidKinds := [.data, .pinned], laidTests := true, laidLooks := .later }
def BoxAllsCardSaid : Prop := Claim7.holds Tryd.pinned (.plain (OpenSpec.ofChange boxAllsSpec)) boxAllsCard

/-- THE SECOND FORM's CARD OF 'postroomlaw.BookChecks'. -/
def bookChecksUptoCard : Claim7 := { stood := { row := bookChecksUptoRow, standIns := [], harness := (true, "aa5f32a48c4cbb1fd1f5415a40a56a3282bd29b56213b841f8a038e60f735a73"), looks := true }, kinds := [], alts := [], laidByText := true, laidKinds := [.data, .pinned], laidTests := true, laidLooks := .later }
def BookChecksUptoCardSaid : Prop := Claim7.holds Tryd.pinned (.plain (OpenSpec.upto bookChecksSpec)) bookChecksUptoCard

/-- THE SECOND FORM's CARD OF 'postroomlaw.BookEncodes'. -/
def bookEncodesUptoCard : Claim7 := { stood := { row := bookEncodesUptoRow, standIns := [], harness := (true, "aa5f32a48c4cbb1fd1f5415a40a56a3282bd29b56213b841f8a038e60f735a73"), looks := true }, kinds := [], alts := [], laidByText := true, laidKinds := [.data, .pinned], laidTests := true, laidLooks := .later }
def BookEncodesUptoCardSaid : Prop := Claim7.holds Tryd.pinned (.plain (OpenSpec.upto bookEncodesSpec)) bookEncodesUptoCard

/-- THE SECOND FORM's CARD OF 'postroomlaw.BookDecodes'. -/
def bookDecodesUptoCard : Claim7 := { stood := { row := bookDecodesUptoRow, standIns := [], harness := (true, "aa5f32a48c4cbb1fd1f5415a40a56a3282bd29b56213b841f8a038e60f735a73"), looks := true }, kinds := [], alts := [], laidByText := true, laidKinds := [.data, .pinned], laidTests := true, laidLooks := .later }
def BookDecodesUptoCardSaid : Prop := Claim7.holds Tryd.pinned (.plain (OpenSpec.upto bookDecodesSpec)) bookDecodesUptoCard

/-- THE SECOND FORM's CARD OF 'postroomlaw.BookAppends'. -/
def bookAppendsUptoCard : Claim7 := { stood := { row := bookAppendsUptoRow, standIns := [], harness := (true, "aa5f32a48c4cbb1fd1f5415a40a56a3282bd29b56213b841f8a038e60f735a73"), looks := true }, kinds := [], alts := [], laidByText := true, laidKinds := [.data, .pinned], laidTests := true, laidLooks := .later }
def BookAppendsUptoCardSaid : Prop := Claim7.holds Tryd.pinned (.plain (OpenSpec.upto bookAppendsSpec)) bookAppendsUptoCard

/-- THE SECOND FORM's CARD OF 'postroomlaw.BookRecovers'. -/
def bookRecoversUptoCard : Claim7 := { stood := { row := bookRecoversUptoRow, standIns := [], harness := (true, "aa5f32a48c4cbb1fd1f5415a40a56a3282bd29b56213b841f8a038e60f735a73"), looks := true }, kinds := [], alts := [], laidByText := true, laidKinds := [.data, .pinned], laidTests := true, laidLooks := .later }
def BookRecoversUptoCardSaid : Prop := Claim7.holds Tryd.pinned (.plain (OpenSpec.upto bookRecoversSpec)) bookRecoversUptoCard

/-- THE SECOND FORM's CARD OF 'postroomlaw.BookFolds'. -/
def bookFoldsUptoCard : Claim7 := { stood := { row := bookFoldsUptoRow, standIns := [], harness := (true, "aa5f32a48c4cbb1fd1f5415a40a56a3282bd29b56213b841f8a038e60f735a73"), looks := true }, kinds := [], alts := [], laidByText := true, laidKinds := [.data, .pinned], laidTests := true, laidLooks := .later }
def BookFoldsUptoCardSaid : Prop := Claim7.holds Tryd.pinned (.plain (OpenSpec.upto bookFoldsSpec)) bookFoldsUptoCard

/-- THE SECOND FORM's CARD OF 'postroomlaw.BoxChecks'. -/
def boxChecksUptoCard : Claim7 := { stood := { row := boxChecksUptoRow, standIns := [], harness := (true, "aa5f32a48c4cbb1fd1f5415a40a56a3282bd29b56213b841f8a038e60f735a73"), looks := true }, kinds := [], alts := [], laidByText := true, laidKinds := [.data, .pinned], laidTests := true, laidLooks := .later }
def BoxChecksUptoCardSaid : Prop := Claim7.holds Tryd.pinned (.plain (OpenSpec.upto boxChecksSpec)) boxChecksUptoCard

/-- THE SECOND FORM's CARD OF 'postroomlaw.BoxApplies'. -/
def boxAppliesUptoCard : Claim7 := { stood := { row := boxAppliesUptoRow, standIns := [], harness := (true, "aa5f32a48c4cbb1fd1f5415a40a56a3282bd29b56213b841f8a038e60f735a73"), looks := true }, kinds := [], alts := [], laidByText := true, laidKinds := [.data, .pinned], laidTests := true, laidLooks := .later }
def BoxAppliesUptoCardSaid : Prop := Claim7.holds Tryd.pinned (.plain (OpenSpec.upto boxAppliesSpec)) boxAppliesUptoCard

/-- THE SECOND FORM's CARD OF 'postroomlaw.BoxAlls'. -/
def boxAllsUptoCard : Claim7 := { stood := { row := boxAllsUptoRow, standIns := [], harness := (true, "aa5f32a48c4cbb1fd1f5415a40a56a3282bd29b56213b841f8a038e60f735a73"), looks := true }, kinds := [], alts := [], laidByText := true, laidKinds := [.data, .pinned], laidTests := true, laidLooks := .later }
def BoxAllsUptoCardSaid : Prop := Claim7.holds Tryd.pinned (.plain (OpenSpec.upto boxAllsSpec)) boxAllsUptoCard
end Rows
end Go.Proofs.YtdffojjimoilgaaDoor
