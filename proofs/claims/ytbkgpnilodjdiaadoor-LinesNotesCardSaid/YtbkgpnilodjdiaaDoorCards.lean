/-
  DERIVED. GIVEN WITH THE SEED: THE CARDS: each row of YtbkgpnilodjdiaaDoorRows.lean that lists a variable, with what it lists TIED to the program's text (the seventh form; the later family's looks); each row that meets fmt, with fmt's text TOLD by the authors' own Lean function (tested against real Go, not proved from fmt's source: count such statements apart). THE CARD IS WHAT COUNTS. Prove the row's statement (the work); the ties are given (YtbkgpnilodjdiaaDoorTie.lean); close each card by the builder's one call (the guide's Derived/Test/ToyasCard.lean, 'card_holds'). Laid BY PROGRAM, IN A SANDBOX (cutbox-door.mjs). By AI agents, Wed Nov 11 2026. No macro, syntax, notation, axiom, sorry.
-/
import Derived.Test.YtbkgpnilodjdiaaDoorRows
import GoSem.ClaimSeven
namespace Go.Proofs.YtbkgpnilodjdiaaDoor
namespace Rows

/-- THE TIED CARD OF 'swagelaw06.LinesParses'. -/
def linesParsesCard : Claim7 := { stood := { row := linesParsesRow, standIns := [], harness := (true, "dbf59eb46ed2fb6f79b1d89f08ec989b81185cdc8f12849ab4cee994a6894204"), looks := false }, kinds := [], alts := [], laidByText := true, laidKinds := [.data, .data, .data], laidTests := true, laidLooks := .later }
def LinesParsesCardSaid : Prop := Claim7.holds Tryd.pinned (.plain (OpenSpec.ofChange linesParsesSpec)) linesParsesCard

/-- THE TIED CARD OF 'swagelaw06.LinesWords'. -/
def linesWordsCard : Claim7 := { stood := { row := linesWordsRow, standIns := [], harness := (true, "dbf59eb46ed2fb6f79b1d89f08ec989b81185cdc8f12849ab4cee994a6894204"), looks := false }, kinds := [], alts := [], laidByText := true, laidKinds := [.data, .data, .data], laidTests := true, laidLooks := .later }
def LinesWordsCardSaid : Prop := Claim7.holds Tryd.pinned (.plain (OpenSpec.ofChange linesWordsSpec)) linesWordsCard

/-- THE TIED CARD OF 'swagelaw06.LinesPrints'. -/
def linesPrintsCard : Claim7 := { stood := { row := linesPrintsRow, standIns := [], harness := (true, "dbf59eb46ed2fb6f79b1d89f08ec989b81185cdc8f12849ab4cee994a6894204"), looks := false }, kinds := [], alts := [], laidByText := true, laidKinds := [.data, .data, .data], laidTests := true, laidLooks := .later }
def LinesPrintsCardSaid : Prop := Claim7.holds Tryd.pinned (.plain (OpenSpec.ofChange linesPrintsSpec)) linesPrintsCard

/-- THE TIED CARD OF 'swagelaw06.LinesBack'. -/
def linesBackCard : Claim7 := { stood := { row := linesBackRow, standIns := [], harness := (true, "dbf59eb46ed2fb6f79b1d89f08ec989b81185cdc8f12849ab4cee994a6894204"), looks := false }, kinds := [], alts := [], laidByText := true, laidKinds := [.data, .data, .data], laidTests := true, laidLooks := .later }
def LinesBackCardSaid : Prop := Claim7.holds Tryd.pinned (.plain (OpenSpec.ofChange linesBackSpec)) linesBackCard

/-- THE TIED CARD OF 'swagelaw06.LinesNotes'. -/
def linesNotesCard : Claim7 := { stood := { row := linesNotesRow, standIns := [], harness := (true, "dbf59eb46ed2fb6f79b1d89f08ec989b81185cdc8f12849ab4cee994a6894204"), looks := false }, kinds := [], alts := [], laidByText := true, laidKinds := [.data, .data, .data], laidTests := true, laidLooks := .later }
def LinesNotesCardSaid : Prop := Claim7.holds Tryd.pinned (.plain (OpenSpec.ofChange linesNotesSpec)) linesNotesCard

/-- THE TIED CARD OF 'swagelaw08.FlowPlain'. -/
def flowPlainCard : Claim7 := { stood := { row := flowPlainRow, standIns := [], harness := (true, "dbf59eb46ed2fb6f79b1d89f08ec989b81185cdc8f12849ab4cee994a6894204"), looks := false }, kinds := [], alts := [], laidByText := true, laidKinds := [.data, .data, .data], laidTests := true, laidLooks := .later }
def FlowPlainCardSaid : Prop := Claim7.holds Tryd.pinned (.plain (OpenSpec.ofChange flowPlainSpec)) flowPlainCard

/-- THE TIED CARD OF 'swagelaw08.FlowNone'. -/
def flowNoneCard : Claim7 := { stood := { row := flowNoneRow, standIns := [], harness := (true, "dbf59eb46ed2fb6f79b1d89f08ec989b81185cdc8f12849ab4cee994a6894204"), looks := false }, kinds := [], alts := [], laidByText := true, laidKinds := [.data, .data, .data], laidTests := true, laidLooks := .later }
def FlowNoneCardSaid : Prop := Claim7.holds Tryd.pinned (.plain (OpenSpec.ofChange flowNoneSpec)) flowNoneCard

/-- THE TIED CARD OF 'swagelaw08.FlowNested'. -/
def flowNestedCard : Claim7 := { stood := { row := flowNestedRow, standIns := [], harness := (true, "dbf59eb46ed2fb6f79b1d89f08ec989b81185cdc8f12849ab4cee994a6894204"), looks := false }, kinds := [], alts := [], laidByText := true, laidKinds := [.data, .data, .data], laidTests := true, laidLooks := .later }
def FlowNestedCardSaid : Prop := Claim7.holds Tryd.pinned (.plain (OpenSpec.ofChange flowNestedSpec)) flowNestedCard

/-- THE SECOND FORM's CARD OF 'swagelaw06.LinesParses'. -/
def linesParsesUptoCard : Claim7 := { stood := { row := linesParsesUptoRow, standIns := [], harness := (true, "dbf59eb46ed2fb6f79b1d89f08ec989b81185cdc8f12849ab4cee994a6894204"), looks := false }, kinds := [], alts := [], laidByText := true, laidKinds := [.data, .data, .data], laidTests := true, laidLooks := .later }
def LinesParsesUptoCardSaid : Prop := Claim7.holds Tryd.pinned (.plain (OpenSpec.upto linesParsesSpec)) linesParsesUptoCard

/-- THE SECOND FORM's CARD OF 'swagelaw06.LinesWords'. -/
def linesWordsUptoCard : Claim7 := { stood := { row := linesWordsUptoRow, standIns := [], harness := (true, "dbf59eb46ed2fb6f79b1d89f08ec989b81185cdc8f12849ab4cee994a6894204"), looks := false }, kinds := [], alts := [], laidByText := true, laidKinds := [.data, .data, .data], laidTests := true, laidLooks := .later }
def LinesWordsUptoCardSaid : Prop := Claim7.holds Tryd.pinned (.plain (OpenSpec.upto linesWordsSpec)) linesWordsUptoCard

/-- THE SECOND FORM's CARD OF 'swagelaw06.LinesPrints'. -/
def linesPrintsUptoCard : Claim7 := { stood := { row := linesPrintsUptoRow, standIns := [], harness := (true, "dbf59eb46ed2fb6f79b1d89f08ec989b81185cdc8f12849ab4cee994a6894204"), looks := false }, kinds := [], alts := [], laidByText := true, laidKinds := [.data, .data, .data], laidTests := true, laidLooks := .later }
def LinesPrintsUptoCardSaid : Prop := Claim7.holds Tryd.pinned (.plain (OpenSpec.upto linesPrintsSpec)) linesPrintsUptoCard

/-- THE SECOND FORM's CARD OF 'swagelaw06.LinesBack'. -/
def linesBackUptoCard : Claim7 := { stood := { row := linesBackUptoRow, standIns := [], harness := (true, "dbf59eb46ed2fb6f79b1d89f08ec989b81185cdc8f12849ab4cee994a6894204"), looks := false }, kinds := [], alts := [], laidByText := true, laidKinds := [.data, .data, .data], laidTests := true, laidLooks := .later }
def LinesBackUptoCardSaid : Prop := Claim7.holds Tryd.pinned (.plain (OpenSpec.upto linesBackSpec)) linesBackUptoCard

/-- THE SECOND FORM's CARD OF 'swagelaw06.LinesNotes'. -/
def linesNotesUptoCard : Claim7 := { stood := { row := linesNotesUptoRow, standIns := [], harness := (true, "dbf59eb46ed2fb6f79b1d89f08ec989b81185cdc8f12849ab4cee994a6894204"), looks := false }, kinds := [], alts := [], laidByText := true, laidKinds := [.data, .data, .data], laidTests := true, laidLooks := .later }
def LinesNotesUptoCardSaid : Prop := Claim7.holds Tryd.pinned (.plain (OpenSpec.upto linesNotesSpec)) linesNotesUptoCard

/-- THE SECOND FORM's CARD OF 'swagelaw08.FlowPlain'. -/
def flowPlainUptoCard : Claim7 := { stood := { row := flowPlainUptoRow, standIns := [], harness := (true, "dbf59eb46ed2fb6f79b1d89f08ec989b81185cdc8f12849ab4cee994a6894204"), looks := false }, kinds := [], alts := [], laidByText := true, laidKinds := [.data, .data, .data], laidTests := true, laidLooks := .later }
def FlowPlainUptoCardSaid : Prop := Claim7.holds Tryd.pinned (.plain (OpenSpec.upto flowPlainSpec)) flowPlainUptoCard

/-- THE SECOND FORM's CARD OF 'swagelaw08.FlowNone'. -/
def flowNoneUptoCard : Claim7 := { stood := { row := flowNoneUptoRow, standIns := [], harness := (true, "dbf59eb46ed2fb6f79b1d89f08ec989b81185cdc8f12849ab4cee994a6894204"), looks := false }, kinds := [], alts := [], laidByText := true, laidKinds := [.data, .data, .data], laidTests := true, laidLooks := .later }
def FlowNoneUptoCardSaid : Prop := Claim7.holds Tryd.pinned (.plain (OpenSpec.upto flowNoneSpec)) flowNoneUptoCard

/-- THE SECOND FORM's CARD OF 'swagelaw08.FlowNested'. -/
def flowNestedUptoCard : Claim7 := { stood := { row := flowNestedUptoRow, standIns := [], harness := (true, "dbf59eb46ed2fb6f79b1d89f08ec989b81185cdc8f12849ab4cee994a6894204"), looks := false }, kinds := [], alts := [], laidByText := true, laidKinds := [.data, .data, .data], laidTests := true, laidLooks := .later }
def FlowNestedUptoCardSaid : Prop := Claim7.holds Tryd.pinned (.plain (OpenSpec.upto flowNestedSpec)) flowNestedUptoCard
end Rows
end Go.Proofs.YtbkgpnilodjdiaaDoor
