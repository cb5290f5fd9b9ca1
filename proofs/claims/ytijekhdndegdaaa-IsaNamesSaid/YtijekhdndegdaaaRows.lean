/-
  No cell of these rows narrows 'for every input' (looked for: loops, veiled, ifaces, maps, wideKeys, modest, calm, conditions, laid).
  DERIVED. THE GIVEN ROWS OF THIS SEAT. 15 by the template 'for every input the law returns true; each argument reads behind the call as it read before'; 0 by the template 'total and deterministic' (their statements: YtijekhdndegdaaaTotals.lean).
  GIVEN WITH THE SEED: the statements are not yours to turn. If you find one false, say at which input.
  Laid BY PROGRAM, IN A SANDBOX (cutbox-rows.mjs): the forced cells as the released guide's own fill.sh prints them over the translation 3d0210ffafe570f3… (all of the seat's roots in one cut). By AI agents, Wed Nov 11 2026. No macro, syntax, notation, axiom, sorry.
-/
import Derived.Test.YtijekhdndegdaaaChecked
import GoSem.Claim
import GoSem.ClaimJoined
import GoSem.ClaimMapViews
import Derived.JoinedTies
import Derived.KernelRfl
namespace Go.Proofs.Ytijekhdndegdaaa
/- THE CELL 'sum', in the pinned program and in every row, IS THE sha256 OF THE DUMP (.gsa) THAT YtijekhdndegdaaaProg.lean LOADS. Nothing in Lean hashes anything: it is a label: what it is worth is what the hold of that sum in a sandbox is worth. -/
noncomputable def Try.pinned : Pinned := { name := "ytijekhdndegdaaa", sum := "3d0210ffafe570f31bd43f70efefa3eafc4b1c23669e36530d1d0a9a9166493d", checked := Try.checked }
namespace Rows
def none {H : Type} : Left H := { results := [], args := [] }

/-- 'swagelaw03.MemoryBack': WHATEVER THE INPUT: true; the input reads as it did. -/
def memoryBackSpec : ChangeSpec := { name := "memoryBack", fn := fun _ => fun
  | [d1, d2, d3, d4, d5, d6] => { results := [.lit (.bool true)], args := [d1, d2, d3, d4, d5, d6] }
  | _ => none }
def memoryBackRow : OpenClaim := { program := "ytijekhdndegdaaa", sum := "3d0210ffafe570f31bd43f70efefa3eafc4b1c23669e36530d1d0a9a9166493d", func := "swage/swagelaw03.MemoryBack", spec := "memoryBack", unfollowed := true, recurses := true, apart := false }
def MemoryBackSaid : Prop := memoryBackRow.holds Try.pinned (OpenSpec.ofChange memoryBackSpec)

/-- ITS FALSE NEIGHBOUR: 'it returns false'. Refute it at one input. -/
def memoryBackWrong : ChangeSpec := { name := "memoryBack", fn := fun _ => fun
  | [d1, d2, d3, d4, d5, d6] => { results := [.lit (.bool false)], args := [d1, d2, d3, d4, d5, d6] }
  | _ => none }
def MemoryBackWrongFalsely : Prop := memoryBackRow.holds Try.pinned (OpenSpec.ofChange memoryBackWrong)

/-- 'swagelaw01.BitsSigns': WHATEVER THE INPUT: true; the input reads as it did. -/
def bitsSignsSpec : ChangeSpec := { name := "bitsSigns", fn := fun _ => fun
  | [d1, d2] => { results := [.lit (.bool true)], args := [d1, d2] }
  | _ => none }
def bitsSignsRow : OpenClaim := { program := "ytijekhdndegdaaa", sum := "3d0210ffafe570f31bd43f70efefa3eafc4b1c23669e36530d1d0a9a9166493d", func := "swage/swagelaw01.BitsSigns", spec := "bitsSigns", named := ["math/bits.overflowError"], apart := false }
def BitsSignsSaid : Prop := bitsSignsRow.holds Try.pinned (OpenSpec.ofChange bitsSignsSpec)

/-- ITS FALSE NEIGHBOUR: 'it returns false'. Refute it at one input. -/
def bitsSignsWrong : ChangeSpec := { name := "bitsSigns", fn := fun _ => fun
  | [d1, d2] => { results := [.lit (.bool false)], args := [d1, d2] }
  | _ => none }
def BitsSignsWrongFalsely : Prop := bitsSignsRow.holds Try.pinned (OpenSpec.ofChange bitsSignsWrong)

/-- 'swagelaw01.BitsHalves': WHATEVER THE INPUT: true; the input reads as it did. -/
def bitsHalvesSpec : ChangeSpec := { name := "bitsHalves", fn := fun _ => fun
  | [d1, d2] => { results := [.lit (.bool true)], args := [d1, d2] }
  | _ => none }
def bitsHalvesRow : OpenClaim := { program := "ytijekhdndegdaaa", sum := "3d0210ffafe570f31bd43f70efefa3eafc4b1c23669e36530d1d0a9a9166493d", func := "swage/swagelaw01.BitsHalves", spec := "bitsHalves", named := ["math/bits.overflowError"], apart := false }
def BitsHalvesSaid : Prop := bitsHalvesRow.holds Try.pinned (OpenSpec.ofChange bitsHalvesSpec)

/-- ITS FALSE NEIGHBOUR: 'it returns false'. Refute it at one input. -/
def bitsHalvesWrong : ChangeSpec := { name := "bitsHalves", fn := fun _ => fun
  | [d1, d2] => { results := [.lit (.bool false)], args := [d1, d2] }
  | _ => none }
def BitsHalvesWrongFalsely : Prop := bitsHalvesRow.holds Try.pinned (OpenSpec.ofChange bitsHalvesWrong)

/-- 'swagelaw01.BitsDoubles': WHATEVER THE INPUT: true; the input reads as it did. -/
def bitsDoublesSpec : ChangeSpec := { name := "bitsDoubles", fn := fun _ => fun
  | [d1, d2] => { results := [.lit (.bool true)], args := [d1, d2] }
  | _ => none }
def bitsDoublesRow : OpenClaim := { program := "ytijekhdndegdaaa", sum := "3d0210ffafe570f31bd43f70efefa3eafc4b1c23669e36530d1d0a9a9166493d", func := "swage/swagelaw01.BitsDoubles", spec := "bitsDoubles", named := ["math/bits.overflowError"], apart := false }
def BitsDoublesSaid : Prop := bitsDoublesRow.holds Try.pinned (OpenSpec.ofChange bitsDoublesSpec)

/-- ITS FALSE NEIGHBOUR: 'it returns false'. Refute it at one input. -/
def bitsDoublesWrong : ChangeSpec := { name := "bitsDoubles", fn := fun _ => fun
  | [d1, d2] => { results := [.lit (.bool false)], args := [d1, d2] }
  | _ => none }
def BitsDoublesWrongFalsely : Prop := bitsDoublesRow.holds Try.pinned (OpenSpec.ofChange bitsDoublesWrong)

/-- 'swagelaw01.BitsBack': WHATEVER THE INPUT: true; the input reads as it did. -/
def bitsBackSpec : ChangeSpec := { name := "bitsBack", fn := fun _ => fun
  | [d1, d2] => { results := [.lit (.bool true)], args := [d1, d2] }
  | _ => none }
def bitsBackRow : OpenClaim := { program := "ytijekhdndegdaaa", sum := "3d0210ffafe570f31bd43f70efefa3eafc4b1c23669e36530d1d0a9a9166493d", func := "swage/swagelaw01.BitsBack", spec := "bitsBack", named := ["math/bits.overflowError"], apart := false }
def BitsBackSaid : Prop := bitsBackRow.holds Try.pinned (OpenSpec.ofChange bitsBackSpec)

/-- ITS FALSE NEIGHBOUR: 'it returns false'. Refute it at one input. -/
def bitsBackWrong : ChangeSpec := { name := "bitsBack", fn := fun _ => fun
  | [d1, d2] => { results := [.lit (.bool false)], args := [d1, d2] }
  | _ => none }
def BitsBackWrongFalsely : Prop := bitsBackRow.holds Try.pinned (OpenSpec.ofChange bitsBackWrong)

/-- 'swagelaw01.BitsWords': WHATEVER THE INPUT: true; the input reads as it did. -/
def bitsWordsSpec : ChangeSpec := { name := "bitsWords", fn := fun _ => fun
  | [d1, d2, d3, d4] => { results := [.lit (.bool true)], args := [d1, d2, d3, d4] }
  | _ => none }
def bitsWordsRow : OpenClaim := { program := "ytijekhdndegdaaa", sum := "3d0210ffafe570f31bd43f70efefa3eafc4b1c23669e36530d1d0a9a9166493d", func := "swage/swagelaw01.BitsWords", spec := "bitsWords", named := ["math/bits.overflowError"], apart := false }
def BitsWordsSaid : Prop := bitsWordsRow.holds Try.pinned (OpenSpec.ofChange bitsWordsSpec)

/-- ITS FALSE NEIGHBOUR: 'it returns false'. Refute it at one input. -/
def bitsWordsWrong : ChangeSpec := { name := "bitsWords", fn := fun _ => fun
  | [d1, d2, d3, d4] => { results := [.lit (.bool false)], args := [d1, d2, d3, d4] }
  | _ => none }
def BitsWordsWrongFalsely : Prop := bitsWordsRow.holds Try.pinned (OpenSpec.ofChange bitsWordsWrong)

/-- 'swagelaw03.MemoryApart': WHATEVER THE INPUT: true; the input reads as it did. -/
def memoryApartSpec : ChangeSpec := { name := "memoryApart", fn := fun _ => fun
  | [d1, d2, d3] => { results := [.lit (.bool true)], args := [d1, d2, d3] }
  | _ => none }
def memoryApartRow : OpenClaim := { program := "ytijekhdndegdaaa", sum := "3d0210ffafe570f31bd43f70efefa3eafc4b1c23669e36530d1d0a9a9166493d", func := "swage/swagelaw03.MemoryApart", spec := "memoryApart", unfollowed := true, recurses := true, apart := false }
def MemoryApartSaid : Prop := memoryApartRow.holds Try.pinned (OpenSpec.ofChange memoryApartSpec)

/-- ITS FALSE NEIGHBOUR: 'it returns false'. Refute it at one input. -/
def memoryApartWrong : ChangeSpec := { name := "memoryApart", fn := fun _ => fun
  | [d1, d2, d3] => { results := [.lit (.bool false)], args := [d1, d2, d3] }
  | _ => none }
def MemoryApartWrongFalsely : Prop := memoryApartRow.holds Try.pinned (OpenSpec.ofChange memoryApartWrong)

/-- 'swagelaw03.MemoryPlays': WHATEVER THE INPUT: true; the input reads as it did. -/
def memoryPlaysSpec : ChangeSpec := { name := "memoryPlays", fn := fun _ => fun
  | [d1, d2, d3] => { results := [.lit (.bool true)], args := [d1, d2, d3] }
  | _ => none }
def memoryPlaysRow : OpenClaim := { program := "ytijekhdndegdaaa", sum := "3d0210ffafe570f31bd43f70efefa3eafc4b1c23669e36530d1d0a9a9166493d", func := "swage/swagelaw03.MemoryPlays", spec := "memoryPlays", unfollowed := true, recurses := true, apart := false }
def MemoryPlaysSaid : Prop := memoryPlaysRow.holds Try.pinned (OpenSpec.ofChange memoryPlaysSpec)

/-- ITS FALSE NEIGHBOUR: 'it returns false'. Refute it at one input. -/
def memoryPlaysWrong : ChangeSpec := { name := "memoryPlays", fn := fun _ => fun
  | [d1, d2, d3] => { results := [.lit (.bool false)], args := [d1, d2, d3] }
  | _ => none }
def MemoryPlaysWrongFalsely : Prop := memoryPlaysRow.holds Try.pinned (OpenSpec.ofChange memoryPlaysWrong)

/-- 'swagelaw03.MemoryNil': WHATEVER THE INPUT: true; the input reads as it did. -/
def memoryNilSpec : ChangeSpec := { name := "memoryNil", fn := fun _ => fun
  | [d] => { results := [.lit (.bool true)], args := [d] }
  | _ => none }
def memoryNilRow : OpenClaim := { program := "ytijekhdndegdaaa", sum := "3d0210ffafe570f31bd43f70efefa3eafc4b1c23669e36530d1d0a9a9166493d", func := "swage/swagelaw03.MemoryNil", spec := "memoryNil", unfollowed := true, recurses := true, apart := false }
def MemoryNilSaid : Prop := memoryNilRow.holds Try.pinned (OpenSpec.ofChange memoryNilSpec)

/-- ITS FALSE NEIGHBOUR: 'it returns false'. Refute it at one input. -/
def memoryNilWrong : ChangeSpec := { name := "memoryNil", fn := fun _ => fun
  | [d] => { results := [.lit (.bool false)], args := [d] }
  | _ => none }
def MemoryNilWrongFalsely : Prop := memoryNilRow.holds Try.pinned (OpenSpec.ofChange memoryNilWrong)

/-- 'swagelaw02.IsaEncodes': WHATEVER THE INPUT: true; the input reads as it did. -/
def isaEncodesSpec : ChangeSpec := { name := "isaEncodes", fn := fun _ => fun
  | [d] => { results := [.lit (.bool true)], args := [d] }
  | _ => none }
def isaEncodesRow : OpenClaim := { program := "ytijekhdndegdaaa", sum := "3d0210ffafe570f31bd43f70efefa3eafc4b1c23669e36530d1d0a9a9166493d", func := "swage/swagelaw02.IsaEncodes", spec := "isaEncodes", apart := false }
def IsaEncodesSaid : Prop := isaEncodesRow.holds Try.pinned (OpenSpec.ofChange isaEncodesSpec)

/-- ITS FALSE NEIGHBOUR: 'it returns false'. Refute it at one input. -/
def isaEncodesWrong : ChangeSpec := { name := "isaEncodes", fn := fun _ => fun
  | [d] => { results := [.lit (.bool false)], args := [d] }
  | _ => none }
def IsaEncodesWrongFalsely : Prop := isaEncodesRow.holds Try.pinned (OpenSpec.ofChange isaEncodesWrong)

/-- 'swagelaw02.IsaDecodes': WHATEVER THE INPUT: true; the input reads as it did. -/
def isaDecodesSpec : ChangeSpec := { name := "isaDecodes", fn := fun _ => fun
  | [d] => { results := [.lit (.bool true)], args := [d] }
  | _ => none }
def isaDecodesRow : OpenClaim := { program := "ytijekhdndegdaaa", sum := "3d0210ffafe570f31bd43f70efefa3eafc4b1c23669e36530d1d0a9a9166493d", func := "swage/swagelaw02.IsaDecodes", spec := "isaDecodes", apart := false }
def IsaDecodesSaid : Prop := isaDecodesRow.holds Try.pinned (OpenSpec.ofChange isaDecodesSpec)

/-- ITS FALSE NEIGHBOUR: 'it returns false'. Refute it at one input. -/
def isaDecodesWrong : ChangeSpec := { name := "isaDecodes", fn := fun _ => fun
  | [d] => { results := [.lit (.bool false)], args := [d] }
  | _ => none }
def IsaDecodesWrongFalsely : Prop := isaDecodesRow.holds Try.pinned (OpenSpec.ofChange isaDecodesWrong)

/-- 'swagelaw02.IsaBack': WHATEVER THE INPUT: true; the input reads as it did. -/
def isaBackSpec : ChangeSpec := { name := "isaBack", fn := fun _ => fun
  | [d1, d2] => { results := [.lit (.bool true)], args := [d1, d2] }
  | _ => none }
def isaBackRow : OpenClaim := { program := "ytijekhdndegdaaa", sum := "3d0210ffafe570f31bd43f70efefa3eafc4b1c23669e36530d1d0a9a9166493d", func := "swage/swagelaw02.IsaBack", spec := "isaBack", apart := false }
def IsaBackSaid : Prop := isaBackRow.holds Try.pinned (OpenSpec.ofChange isaBackSpec)

/-- ITS FALSE NEIGHBOUR: 'it returns false'. Refute it at one input. -/
def isaBackWrong : ChangeSpec := { name := "isaBack", fn := fun _ => fun
  | [d1, d2] => { results := [.lit (.bool false)], args := [d1, d2] }
  | _ => none }
def IsaBackWrongFalsely : Prop := isaBackRow.holds Try.pinned (OpenSpec.ofChange isaBackWrong)

/-- 'swagelaw02.IsaApart': WHATEVER THE INPUT: true; the input reads as it did. -/
def isaApartSpec : ChangeSpec := { name := "isaApart", fn := fun _ => fun
  | [d1, d2] => { results := [.lit (.bool true)], args := [d1, d2] }
  | _ => none }
def isaApartRow : OpenClaim := { program := "ytijekhdndegdaaa", sum := "3d0210ffafe570f31bd43f70efefa3eafc4b1c23669e36530d1d0a9a9166493d", func := "swage/swagelaw02.IsaApart", spec := "isaApart", apart := false }
def IsaApartSaid : Prop := isaApartRow.holds Try.pinned (OpenSpec.ofChange isaApartSpec)

/-- ITS FALSE NEIGHBOUR: 'it returns false'. Refute it at one input. -/
def isaApartWrong : ChangeSpec := { name := "isaApart", fn := fun _ => fun
  | [d1, d2] => { results := [.lit (.bool false)], args := [d1, d2] }
  | _ => none }
def IsaApartWrongFalsely : Prop := isaApartRow.holds Try.pinned (OpenSpec.ofChange isaApartWrong)

/-- 'swagelaw02.IsaBits': WHATEVER THE INPUT: true; the input reads as it did. -/
def isaBitsSpec : ChangeSpec := { name := "isaBits", fn := fun _ => fun
  | [d1, d2, d3] => { results := [.lit (.bool true)], args := [d1, d2, d3] }
  | _ => none }
def isaBitsRow : OpenClaim := { program := "ytijekhdndegdaaa", sum := "3d0210ffafe570f31bd43f70efefa3eafc4b1c23669e36530d1d0a9a9166493d", func := "swage/swagelaw02.IsaBits", spec := "isaBits", apart := false }
def IsaBitsSaid : Prop := isaBitsRow.holds Try.pinned (OpenSpec.ofChange isaBitsSpec)

/-- ITS FALSE NEIGHBOUR: 'it returns false'. Refute it at one input. -/
def isaBitsWrong : ChangeSpec := { name := "isaBits", fn := fun _ => fun
  | [d1, d2, d3] => { results := [.lit (.bool false)], args := [d1, d2, d3] }
  | _ => none }
def IsaBitsWrongFalsely : Prop := isaBitsRow.holds Try.pinned (OpenSpec.ofChange isaBitsWrong)

/-- 'swagelaw02.IsaNames': WHATEVER THE INPUT: true; the input reads as it did. -/
def isaNamesSpec : ChangeSpec := { name := "isaNames", fn := fun _ => fun
  | [d1, d2] => { results := [.lit (.bool true)], args := [d1, d2] }
  | _ => none }
def isaNamesRow : OpenClaim := { program := "ytijekhdndegdaaa", sum := "3d0210ffafe570f31bd43f70efefa3eafc4b1c23669e36530d1d0a9a9166493d", func := "swage/swagelaw02.IsaNames", spec := "isaNames", unfollowed := true, recurses := true, apart := false }
def IsaNamesSaid : Prop := isaNamesRow.holds Try.pinned (OpenSpec.ofChange isaNamesSpec)

/-- ITS FALSE NEIGHBOUR: 'it returns false'. Refute it at one input. -/
def isaNamesWrong : ChangeSpec := { name := "isaNames", fn := fun _ => fun
  | [d1, d2] => { results := [.lit (.bool false)], args := [d1, d2] }
  | _ => none }
def IsaNamesWrongFalsely : Prop := isaNamesRow.holds Try.pinned (OpenSpec.ofChange isaNamesWrong)

/- THE SECOND FORM. 'bulk': how many values and letters a reading holds, each counted each time it is reached (what is shared counts as often as it is met; a slice's spare places count too). A statement '..UptoSaid' is the law's where the arguments, and the package variables that the reading takes, are together of bulk at most 1048576: NARROWER than '..Said'. Prove '..Said' where nothing that the law and all that it calls make is longer than what came in: it says more and counts as full. Else prove '..UptoSaid'. A law counts once. -/
mutual
def uptoBulk {H : Type} : DataW H → Nat
  | .lit (.string bytes) => bytes.length + 1
  | .lit _ => 1
  | .nil => 1
  | .ptr d => uptoBulk d + 1
  | .slice elems spare => uptoBulkAll elems + uptoBulkAll spare + 1
  | .agg parts => uptoBulkAll parts + 1
  | .iface _ d => uptoBulk d + 1
  | .map entries => uptoBulkEntries entries + 1
  | .held _ => 1
def uptoBulkAll {H : Type} : List (DataW H) → Nat
  | [] => 0
  | d :: r => uptoBulk d + uptoBulkAll r
def uptoBulkEntries {H : Type} : List (Lit × DataW H) → Nat
  | [] => 0
  | x :: r => uptoBulkEntry x + uptoBulkEntries r
def uptoBulkEntry {H : Type} : Lit × DataW H → Nat
  | (.string bytes, d) => bytes.length + uptoBulk d + 1
  | (_, d) => uptoBulk d + 1
 end
def uptoSmall : (H : Type) → List (DataW H) → Bool := fun _ ds => decide (uptoBulkAll ds ≤ 1048576)
def OpenSpec.upto (s : _root_.Go.ChangeSpec) : _root_.Go.OpenSpec := { _root_.Go.OpenSpec.ofChange s with cond := some uptoSmall }

/-- 'swagelaw03.MemoryBack', WHERE WHAT IT READS IS OF BULK AT MOST 1048576: true; the input reads as it did. -/
def memoryBackUptoRow : OpenClaim := { program := "ytijekhdndegdaaa", sum := "3d0210ffafe570f31bd43f70efefa3eafc4b1c23669e36530d1d0a9a9166493d", func := "swage/swagelaw03.MemoryBack", spec := "memoryBack", unfollowed := true, recurses := true, apart := false, narrowed := true }
def MemoryBackUptoSaid : Prop := memoryBackUptoRow.holds Try.pinned (OpenSpec.upto memoryBackSpec)

/-- 'swagelaw01.BitsSigns', WHERE WHAT IT READS IS OF BULK AT MOST 1048576: true; the input reads as it did. -/
def bitsSignsUptoRow : OpenClaim := { program := "ytijekhdndegdaaa", sum := "3d0210ffafe570f31bd43f70efefa3eafc4b1c23669e36530d1d0a9a9166493d", func := "swage/swagelaw01.BitsSigns", spec := "bitsSigns", named := ["math/bits.overflowError"], apart := false, narrowed := true }
def BitsSignsUptoSaid : Prop := bitsSignsUptoRow.holds Try.pinned (OpenSpec.upto bitsSignsSpec)

/-- 'swagelaw01.BitsHalves', WHERE WHAT IT READS IS OF BULK AT MOST 1048576: true; the input reads as it did. -/
def bitsHalvesUptoRow : OpenClaim := { program := "ytijekhdndegdaaa", sum := "3d0210ffafe570f31bd43f70efefa3eafc4b1c23669e36530d1d0a9a9166493d", func := "swage/swagelaw01.BitsHalves", spec := "bitsHalves", named := ["math/bits.overflowError"], apart := false, narrowed := true }
def BitsHalvesUptoSaid : Prop := bitsHalvesUptoRow.holds Try.pinned (OpenSpec.upto bitsHalvesSpec)

/-- 'swagelaw01.BitsDoubles', WHERE WHAT IT READS IS OF BULK AT MOST 1048576: true; the input reads as it did. -/
def bitsDoublesUptoRow : OpenClaim := { program := "ytijekhdndegdaaa", sum := "3d0210ffafe570f31bd43f70efefa3eafc4b1c23669e36530d1d0a9a9166493d", func := "swage/swagelaw01.BitsDoubles", spec := "bitsDoubles", named := ["math/bits.overflowError"], apart := false, narrowed := true }
def BitsDoublesUptoSaid : Prop := bitsDoublesUptoRow.holds Try.pinned (OpenSpec.upto bitsDoublesSpec)

/-- 'swagelaw01.BitsBack', WHERE WHAT IT READS IS OF BULK AT MOST 1048576: true; the input reads as it did. -/
def bitsBackUptoRow : OpenClaim := { program := "ytijekhdndegdaaa", sum := "3d0210ffafe570f31bd43f70efefa3eafc4b1c23669e36530d1d0a9a9166493d", func := "swage/swagelaw01.BitsBack", spec := "bitsBack", named := ["math/bits.overflowError"], apart := false, narrowed := true }
def BitsBackUptoSaid : Prop := bitsBackUptoRow.holds Try.pinned (OpenSpec.upto bitsBackSpec)

/-- 'swagelaw01.BitsWords', WHERE WHAT IT READS IS OF BULK AT MOST 1048576: true; the input reads as it did. -/
def bitsWordsUptoRow : OpenClaim := { program := "ytijekhdndegdaaa", sum := "3d0210ffafe570f31bd43f70efefa3eafc4b1c23669e36530d1d0a9a9166493d", func := "swage/swagelaw01.BitsWords", spec := "bitsWords", named := ["math/bits.overflowError"], apart := false, narrowed := true }
def BitsWordsUptoSaid : Prop := bitsWordsUptoRow.holds Try.pinned (OpenSpec.upto bitsWordsSpec)

/-- 'swagelaw03.MemoryApart', WHERE WHAT IT READS IS OF BULK AT MOST 1048576: true; the input reads as it did. -/
def memoryApartUptoRow : OpenClaim := { program := "ytijekhdndegdaaa", sum := "3d0210ffafe570f31bd43f70efefa3eafc4b1c23669e36530d1d0a9a9166493d", func := "swage/swagelaw03.MemoryApart", spec := "memoryApart", unfollowed := true, recurses := true, apart := false, narrowed := true }
def MemoryApartUptoSaid : Prop := memoryApartUptoRow.holds Try.pinned (OpenSpec.upto memoryApartSpec)

/-- 'swagelaw03.MemoryPlays', WHERE WHAT IT READS IS OF BULK AT MOST 1048576: true; the input reads as it did. -/
def memoryPlaysUptoRow : OpenClaim := { program := "ytijekhdndegdaaa", sum := "3d0210ffafe570f31bd43f70efefa3eafc4b1c23669e36530d1d0a9a9166493d", func := "swage/swagelaw03.MemoryPlays", spec := "memoryPlays", unfollowed := true, recurses := true, apart := false, narrowed := true }
def MemoryPlaysUptoSaid : Prop := memoryPlaysUptoRow.holds Try.pinned (OpenSpec.upto memoryPlaysSpec)

/-- 'swagelaw03.MemoryNil', WHERE WHAT IT READS IS OF BULK AT MOST 1048576: true; the input reads as it did. -/
def memoryNilUptoRow : OpenClaim := { program := "ytijekhdndegdaaa", sum := "3d0210ffafe570f31bd43f70efefa3eafc4b1c23669e36530d1d0a9a9166493d", func := "swage/swagelaw03.MemoryNil", spec := "memoryNil", unfollowed := true, recurses := true, apart := false, narrowed := true }
def MemoryNilUptoSaid : Prop := memoryNilUptoRow.holds Try.pinned (OpenSpec.upto memoryNilSpec)

/-- 'swagelaw02.IsaEncodes', WHERE WHAT IT READS IS OF BULK AT MOST 1048576: true; the input reads as it did. -/
def isaEncodesUptoRow : OpenClaim := { program := "ytijekhdndegdaaa", sum := "3d0210ffafe570f31bd43f70efefa3eafc4b1c23669e36530d1d0a9a9166493d", func := "swage/swagelaw02.IsaEncodes", spec := "isaEncodes", apart := false, narrowed := true }
def IsaEncodesUptoSaid : Prop := isaEncodesUptoRow.holds Try.pinned (OpenSpec.upto isaEncodesSpec)

/-- 'swagelaw02.IsaDecodes', WHERE WHAT IT READS IS OF BULK AT MOST 1048576: true; the input reads as it did. -/
def isaDecodesUptoRow : OpenClaim := { program := "ytijekhdndegdaaa", sum := "3d0210ffafe570f31bd43f70efefa3eafc4b1c23669e36530d1d0a9a9166493d", func := "swage/swagelaw02.IsaDecodes", spec := "isaDecodes", apart := false, narrowed := true }
def IsaDecodesUptoSaid : Prop := isaDecodesUptoRow.holds Try.pinned (OpenSpec.upto isaDecodesSpec)

/-- 'swagelaw02.IsaBack', WHERE WHAT IT READS IS OF BULK AT MOST 1048576: true; the input reads as it did. -/
def isaBackUptoRow : OpenClaim := { program := "ytijekhdndegdaaa", sum := "3d0210ffafe570f31bd43f70efefa3eafc4b1c23669e36530d1d0a9a9166493d", func := "swage/swagelaw02.IsaBack", spec := "isaBack", apart := false, narrowed := true }
def IsaBackUptoSaid : Prop := isaBackUptoRow.holds Try.pinned (OpenSpec.upto isaBackSpec)

/-- 'swagelaw02.IsaApart', WHERE WHAT IT READS IS OF BULK AT MOST 1048576: true; the input reads as it did. -/
def isaApartUptoRow : OpenClaim := { program := "ytijekhdndegdaaa", sum := "3d0210ffafe570f31bd43f70efefa3eafc4b1c23669e36530d1d0a9a9166493d", func := "swage/swagelaw02.IsaApart", spec := "isaApart", apart := false, narrowed := true }
def IsaApartUptoSaid : Prop := isaApartUptoRow.holds Try.pinned (OpenSpec.upto isaApartSpec)

/-- 'swagelaw02.IsaBits', WHERE WHAT IT READS IS OF BULK AT MOST 1048576: true; the input reads as it did. -/
def isaBitsUptoRow : OpenClaim := { program := "ytijekhdndegdaaa", sum := "3d0210ffafe570f31bd43f70efefa3eafc4b1c23669e36530d1d0a9a9166493d", func := "swage/swagelaw02.IsaBits", spec := "isaBits", apart := false, narrowed := true }
def IsaBitsUptoSaid : Prop := isaBitsUptoRow.holds Try.pinned (OpenSpec.upto isaBitsSpec)

/-- 'swagelaw02.IsaNames', WHERE WHAT IT READS IS OF BULK AT MOST 1048576: true; the input reads as it did. -/
def isaNamesUptoRow : OpenClaim := { program := "ytijekhdndegdaaa", sum := "3d0210ffafe570f31bd43f70efefa3eafc4b1c23669e36530d1d0a9a9166493d", func := "swage/swagelaw02.IsaNames", spec := "isaNames", unfollowed := true, recurses := true, apart := false, narrowed := true }
def IsaNamesUptoSaid : Prop := isaNamesUptoRow.holds Try.pinned (OpenSpec.upto isaNamesSpec)

end Rows
end Go.Proofs.Ytijekhdndegdaaa
