/-
  DERIVED. GIVEN WITH THE SEED: THE CARDS: each row of YtfafdkbnmfpbmaaDoorRows.lean that lists a variable, with what it lists TIED to the program's text (the seventh form; the later family's looks); each row that meets fmt, with fmt's text TOLD by the authors' own Lean function (tested against real Go, not proved from fmt's source: count such statements apart). THE CARD IS WHAT COUNTS. Prove the row's statement (the work); the ties are given (YtfafdkbnmfpbmaaDoorTie.lean); close each card by the builder's one call (the guide's Derived/Test/ToyasCard.lean, 'card_holds'). Laid BY PROGRAM, IN A SANDBOX (cutbox-door.mjs). By AI agents, Wed Nov 11 2026. No macro, syntax, notation, axiom, sorry.
-/
import Derived.Test.YtfafdkbnmfpbmaaDoorRows
import GoSem.ClaimSeven
namespace Go.Proofs.YtfafdkbnmfpbmaaDoor
namespace Rows

/-- THE TIED CARD OF 'swagelaw08.FlowPlain'. -/
def flowPlainCard : Claim7 := { stood := { row := flowPlainRow, standIns := [], harness := (true, "66fa673f5468f67b0c97eb8043f3721e7bca4cd68fdf7ddc106cbe21f850a5fd"), looks := false }, kinds := [], alts := [], laidByText := true, laidKinds := [.data, .data, .data], laidTests := true, laidLooks := .later }
def FlowPlainCardSaid : Prop := Claim7.holds Tryd.pinned (.plain (OpenSpec.ofChange flowPlainSpec)) flowPlainCard

/-- THE TIED CARD OF 'swagelaw08.FlowNone'. -/
def flowNoneCard : Claim7 := { stood := { row := flowNoneRow, standIns := [], harness := (true, "66fa673f5468f67b0c97eb8043f3721e7bca4cd68fdf7ddc106cbe21f850a5fd"), looks := false }, kinds := [], alts := [], laidByText := true, laidKinds := [.data, .data, .data], laidTests := true, laidLooks := .later }
def FlowNoneCardSaid : Prop := Claim7.holds Tryd.pinned (.plain (OpenSpec.ofChange flowNoneSpec)) flowNoneCard

/-- THE TIED CARD OF 'swagelaw08.FlowNested'. -/
def flowNestedCard : Claim7 := { stood := { row := flowNestedRow, standIns := [], harness := (true, "66fa673f5468f67b0c97eb8043f3721e7bca4cd68fdf7ddc106cbe21f850a5fd"), looks := false }, kinds := [], alts := [], laidByText := true, laidKinds := [.data, .data, .data], laidTests := true, laidLooks := .later }
def FlowNestedCardSaid : Prop := Claim7.holds Tryd.pinned (.plain (OpenSpec.ofChange flowNestedSpec)) flowNestedCard

/-- THE TIED CARD OF 'swagelaw12.CrossNotes'. -/
def crossNotesCard : Claim7 := { stood := { row := crossNotesRow, standIns := [], harness := (true, "66fa673f5468f67b0c97eb8043f3721e7bca4cd68fdf7ddc106cbe21f850a5fd"), looks := false }, kinds := [], alts := [], laidByText := true, laidKinds := [.data, .data, .data], laidTests := true, laidLooks := .later }
def CrossNotesCardSaid : Prop := Claim7.holds Tryd.pinned (.plain (OpenSpec.ofChange crossNotesSpec)) crossNotesCard

/-- THE TIED CARD OF 'swagelaw07.AsmMany'. -/
def asmManyCard : Claim7 := { stood := { row := asmManyRow, standIns := [], harness := (true, "66fa673f5468f67b0c97eb8043f3721e7bca4cd68fdf7ddc106cbe21f850a5fd"), looks := false }, kinds := [], alts := [], laidByText := true, laidKinds := [.data, .data, .data], laidTests := true, laidLooks := .later }
def AsmManyCardSaid : Prop := Claim7.holds Tryd.pinned (.plain (OpenSpec.ofChange asmManySpec)) asmManyCard

/-- THE TIED CARD OF 'swagelaw07.AsmParts'. -/
def asmPartsCard : Claim7 := { stood := { row := asmPartsRow, standIns := [], harness := (true, "66fa673f5468f67b0c97eb8043f3721e7bca4cd68fdf7ddc106cbe21f850a5fd"), looks := false }, kinds := [], alts := [], laidByText := true, laidKinds := [.data, .data, .data], laidTests := true, laidLooks := .later }
def AsmPartsCardSaid : Prop := Claim7.holds Tryd.pinned (.plain (OpenSpec.ofChange asmPartsSpec)) asmPartsCard

/-- THE SECOND FORM's CARD OF 'swagelaw08.FlowPlain'. -/
def flowPlainUptoCard : Claim7 := { stood := { row := flowPlainUptoRow, standIns := [], harness := (true, "66fa673f5468f67b0c97eb8043f3721e7bca4cd68fdf7ddc106cbe21f850a5fd"), looks := false }, kinds := [], alts := [], laidByText := true, laidKinds := [.data, .data, .data], laidTests := true, laidLooks := .later }
def FlowPlainUptoCardSaid : Prop := Claim7.holds Tryd.pinned (.plain (OpenSpec.upto flowPlainSpec)) flowPlainUptoCard

/-- THE SECOND FORM's CARD OF 'swagelaw08.FlowNone'. -/
def flowNoneUptoCard : Claim7 := { stood := { row := flowNoneUptoRow, standIns := [], harness := (true, "66fa673f5468f67b0c97eb8043f3721e7bca4cd68fdf7ddc106cbe21f850a5fd"), looks := false }, kinds := [], alts := [], laidByText := true, laidKinds := [.data, .data, .data], laidTests := true, laidLooks := .later }
def FlowNoneUptoCardSaid : Prop := Claim7.holds Tryd.pinned (.plain (OpenSpec.upto flowNoneSpec)) flowNoneUptoCard

/-- THE SECOND FORM's CARD OF 'swagelaw08.FlowNested'. -/
def flowNestedUptoCard : Claim7 := { stood := { row := flowNestedUptoRow, standIns := [], harness := (true, "66fa673f5468f67b0c97eb8043f3721e7bca4cd68fdf7ddc106cbe21f850a5fd"), looks := false }, kinds := [], alts := [], laidByText := true, laidKinds := [.data, .data, .data], laidTests := true, laidLooks := .later }
def FlowNestedUptoCardSaid : Prop := Claim7.holds Tryd.pinned (.plain (OpenSpec.upto flowNestedSpec)) flowNestedUptoCard

/-- THE SECOND FORM's CARD OF 'swagelaw12.CrossNotes'. -/
def crossNotesUptoCard : Claim7 := { stood := { row := crossNotesUptoRow, standIns := [], harness := (true, "66fa673f5468f67b0c97eb8043f3721e7bca4cd68fdf7ddc106cbe21f850a5fd"), looks := false }, kinds := [], alts := [], laidByText := true, laidKinds := [.data, .data, .data], laidTests := true, laidLooks := .later }
def CrossNotesUptoCardSaid : Prop := Claim7.holds Tryd.pinned (.plain (OpenSpec.upto crossNotesSpec)) crossNotesUptoCard

/-- THE SECOND FORM's CARD OF 'swagelaw07.AsmMany'. -/
def asmManyUptoCard : Claim7 := { stood := { row := asmManyUptoRow, standIns := [], harness := (true, "66fa673f5468f67b0c97eb8043f3721e7bca4cd68fdf7ddc106cbe21f850a5fd"), looks := false }, kinds := [], alts := [], laidByText := true, laidKinds := [.data, .data, .data], laidTests := true, laidLooks := .later }
def AsmManyUptoCardSaid : Prop := Claim7.holds Tryd.pinned (.plain (OpenSpec.upto asmManySpec)) asmManyUptoCard

/-- THE SECOND FORM's CARD OF 'swagelaw07.AsmParts'. -/
def asmPartsUptoCard : Claim7 := { stood := { row := asmPartsUptoRow, standIns := [], harness := (true, "66fa673f5468f67b0c97eb8043f3721e7bca4cd68fdf7ddc106cbe21f850a5fd"), looks := false }, kinds := [], alts := [], laidByText := true, laidKinds := [.data, .data, .data], laidTests := true, laidLooks := .later }
def AsmPartsUptoCardSaid : Prop := Claim7.holds Tryd.pinned (.plain (OpenSpec.upto asmPartsSpec)) asmPartsUptoCard
end Rows
end Go.Proofs.YtfafdkbnmfpbmaaDoor
