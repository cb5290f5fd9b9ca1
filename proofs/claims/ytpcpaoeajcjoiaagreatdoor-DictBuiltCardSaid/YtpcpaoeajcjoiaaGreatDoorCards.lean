/-
  DERIVED. GIVEN WITH THE SEED: THE CARDS: each row of YtpcpaoeajcjoiaaGreatDoorRows.lean that lists a variable, with what it lists TIED to the program's text (the seventh form; the later family's looks); each row that meets fmt, with fmt's text TOLD by the authors' own Lean function (tested against real Go, not proved from fmt's source: count such statements apart). THE CARD IS WHAT COUNTS. Prove the row's statement (the work); the ties are given (YtpcpaoeajcjoiaaGreatDoorTie.lean); close each card by the builder's one call (the guide's Derived/Test/ToyasCard.lean, 'card_holds'). Laid BY PROGRAM, IN A SANDBOX (cutbox-door.mjs). By AI agents, Wed Nov 11 2026. No macro, syntax, notation, axiom, sorry.
-/
import Derived.Test.YtpcpaoeajcjoiaaGreatDoorRows
import GoSem.ClaimSeven
namespace Go.Proofs.YtpcpaoeajcjoiaaGreatDoor
namespace Rows

/-- THE TIED CARD OF 'swagelaw07.AsmBytes'. -/
def asmBytesCard : Claim7 := { stood := { row := asmBytesRow, standIns := [], harness := (true, "03f233fc8fa604040dd13b31e3d3d405b632ece0a80b0e7c01b12acd30d6fa15"), looks := false }, kinds := [], alts := [], laidByText := true, laidKinds := [.data, .data, .data], laidTests := true, laidLooks := .later }
def AsmBytesCardSaid : Prop := Claim7.holds Tryz.pinned (.plain (OpenSpec.ofChange asmBytesSpec)) asmBytesCard

/-- THE TIED CARD OF 'swagelaw10.ImageChains'. -/
def imageChainsCard : Claim7 := { stood := { row := imageChainsRow, standIns := [], harness := (true, "03f233fc8fa604040dd13b31e3d3d405b632ece0a80b0e7c01b12acd30d6fa15"), looks := false }, kinds := [], alts := [], laidByText := true, laidKinds := [.data, .data, .data], laidTests := true, laidLooks := .later }
def ImageChainsCardSaid : Prop := Claim7.holds Tryz.pinned (.plain (OpenSpec.ofChange imageChainsSpec)) imageChainsCard

/-- THE TIED CARD OF 'swagelaw12.CrossBuilt'. -/
def crossBuiltCard : Claim7 := { stood := { row := crossBuiltRow, standIns := [], harness := (true, "03f233fc8fa604040dd13b31e3d3d405b632ece0a80b0e7c01b12acd30d6fa15"), looks := false }, kinds := [], alts := [], laidByText := true, laidKinds := [.data, .data, .data], laidTests := true, laidLooks := .later }
def CrossBuiltCardSaid : Prop := Claim7.holds Tryz.pinned (.plain (OpenSpec.ofChange crossBuiltSpec)) crossBuiltCard

/-- THE TIED CARD OF 'swagelaw11.DictReads'. -/
def dictReadsCard : Claim7 := { stood := { row := dictReadsRow, standIns := [], harness := (true, "03f233fc8fa604040dd13b31e3d3d405b632ece0a80b0e7c01b12acd30d6fa15"), looks := false }, kinds := [], alts := [], laidByText := true, laidKinds := [.data, .data, .data], laidTests := true, laidLooks := .later }
def DictReadsCardSaid : Prop := Claim7.holds Tryz.pinned (.plain (OpenSpec.ofChange dictReadsSpec)) dictReadsCard

/-- THE TIED CARD OF 'swagelaw11.DictNil'. -/
def dictNilCard : Claim7 := { stood := { row := dictNilRow, standIns := [], harness := (true, "03f233fc8fa604040dd13b31e3d3d405b632ece0a80b0e7c01b12acd30d6fa15"), looks := false }, kinds := [], alts := [], laidByText := true, laidKinds := [.data, .data, .data], laidTests := true, laidLooks := .later }
def DictNilCardSaid : Prop := Claim7.holds Tryz.pinned (.plain (OpenSpec.ofChange dictNilSpec)) dictNilCard

/-- THE TIED CARD OF 'swagelaw11.DictBuilt'. -/
def dictBuiltCard : Claim7 := { stood := { row := dictBuiltRow, standIns := [], harness := (true, "03f233fc8fa604040dd13b31e3d3d405b632ece0a80b0e7c01b12acd30d6fa15"), looks := false }, kinds := [], alts := [], laidByText := true, laidKinds := [.data, .data, .data], laidTests := true, laidLooks := .later }
def DictBuiltCardSaid : Prop := Claim7.holds Tryz.pinned (.plain (OpenSpec.ofChange dictBuiltSpec)) dictBuiltCard

/-- THE SECOND FORM's CARD OF 'swagelaw07.AsmBytes'. -/
def asmBytesUptoCard : Claim7 := { stood := { row := asmBytesUptoRow, standIns := [], harness := (true, "03f233fc8fa604040dd13b31e3d3d405b632ece0a80b0e7c01b12acd30d6fa15"), looks := false }, kinds := [], alts := [], laidByText := true, laidKinds := [.data, .data, .data], laidTests := true, laidLooks := .later }
def AsmBytesUptoCardSaid : Prop := Claim7.holds Tryz.pinned (.plain (OpenSpec.upto asmBytesSpec)) asmBytesUptoCard

/-- THE SECOND FORM's CARD OF 'swagelaw10.ImageChains'. -/
def imageChainsUptoCard : Claim7 := { stood := { row := imageChainsUptoRow, standIns := [], harness := (true, "03f233fc8fa604040dd13b31e3d3d405b632ece0a80b0e7c01b12acd30d6fa15"), looks := false }, kinds := [], alts := [], laidByText := true, laidKinds := [.data, .data, .data], laidTests := true, laidLooks := .later }
def ImageChainsUptoCardSaid : Prop := Claim7.holds Tryz.pinned (.plain (OpenSpec.upto imageChainsSpec)) imageChainsUptoCard

/-- THE SECOND FORM's CARD OF 'swagelaw12.CrossBuilt'. -/
def crossBuiltUptoCard : Claim7 := { stood := { row := crossBuiltUptoRow, standIns := [], harness := (true, "03f233fc8fa604040dd13b31e3d3d405b632ece0a80b0e7c01b12acd30d6fa15"), looks := false }, kinds := [], alts := [], laidByText := true, laidKinds := [.data, .data, .data], laidTests := true, laidLooks := .later }
def CrossBuiltUptoCardSaid : Prop := Claim7.holds Tryz.pinned (.plain (OpenSpec.upto crossBuiltSpec)) crossBuiltUptoCard

/-- THE SECOND FORM's CARD OF 'swagelaw11.DictReads'. -/
def dictReadsUptoCard : Claim7 := { stood := { row := dictReadsUptoRow, standIns := [], harness := (true, "03f233fc8fa604040dd13b31e3d3d405b632ece0a80b0e7c01b12acd30d6fa15"), looks := false }, kinds := [], alts := [], laidByText := true, laidKinds := [.data, .data, .data], laidTests := true, laidLooks := .later }
def DictReadsUptoCardSaid : Prop := Claim7.holds Tryz.pinned (.plain (OpenSpec.upto dictReadsSpec)) dictReadsUptoCard

/-- THE SECOND FORM's CARD OF 'swagelaw11.DictNil'. -/
def dictNilUptoCard : Claim7 := { stood := { row := dictNilUptoRow, standIns := [], harness := (true, "03f233fc8fa604040dd13b31e3d3d405b632ece0a80b0e7c01b12acd30d6fa15"), looks := false }, kinds := [], alts := [], laidByText := true, laidKinds := [.data, .data, .data], laidTests := true, laidLooks := .later }
def DictNilUptoCardSaid : Prop := Claim7.holds Tryz.pinned (.plain (OpenSpec.upto dictNilSpec)) dictNilUptoCard

/-- THE SECOND FORM's CARD OF 'swagelaw11.DictBuilt'. -/
def dictBuiltUptoCard : Claim7 := { stood := { row := dictBuiltUptoRow, standIns := [], harness := (true, "03f233fc8fa604040dd13b31e3d3d405b632ece0a80b0e7c01b12acd30d6fa15"), looks := false }, kinds := [], alts := [], laidByText := true, laidKinds := [.data, .data, .data], laidTests := true, laidLooks := .later }
def DictBuiltUptoCardSaid : Prop := Claim7.holds Tryz.pinned (.plain (OpenSpec.upto dictBuiltSpec)) dictBuiltUptoCard
end Rows
end Go.Proofs.YtpcpaoeajcjoiaaGreatDoor
