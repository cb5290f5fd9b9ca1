/-
  No cell of these rows narrows 'for every input' (looked for: loops, veiled, ifaces, maps, wideKeys, modest, calm, conditions, laid).
  DERIVED. THE GIVEN ROWS OF THIS SEAT. 7 by the template 'for every input the law returns true; each argument reads behind the call as it read before'; 0 by the template 'total and deterministic' (their statements: YtfffkfcemajcpaaTotals.lean).
  GIVEN WITH THE SEED: the statements are not yours to turn. If you find one false, say at which input.
  Laid BY PROGRAM, IN A SANDBOX (cutbox-rows.mjs): the forced cells as the released guide's own fill.sh prints them over the translation eef882398e0eb989… (all of the seat's roots in one cut). By AI agents, Wed Nov 11 2026. No macro, syntax, notation, axiom, sorry.
-/
import Derived.Test.YtfffkfcemajcpaaChecked
import GoSem.Claim
import GoSem.ClaimJoined
import GoSem.ClaimMapViews
import Derived.JoinedTies
import Derived.KernelRfl
namespace Go.Proofs.Ytfffkfcemajcpaa
/- THE CELL 'sum', in the pinned program and in every row, IS THE sha256 OF THE DUMP (.gsa) THAT YtfffkfcemajcpaaProg.lean LOADS. Nothing in Lean hashes anything: it is a label: what it is worth is what the hold of that sum in a sandbox is worth. -/
noncomputable def Try.pinned : Pinned := { name := "ytfffkfcemajcpaa", sum := "eef882398e0eb98923d1bc2faf4eec153e8319a68593799b26b26b4f91d02231", checked := Try.checked }
namespace Rows
def none {H : Type} : Left H := { results := [], args := [] }

/-- 'swagelaw04.PortOnce': WHATEVER THE INPUT: true; the input reads as it did. -/
def portOnceSpec : ChangeSpec := { name := "portOnce", fn := fun _ => fun
  | [d1, d2] => { results := [.lit (.bool true)], args := [d1, d2] }
  | _ => none }
def portOnceRow : OpenClaim := { program := "ytfffkfcemajcpaa", sum := "eef882398e0eb98923d1bc2faf4eec153e8319a68593799b26b26b4f91d02231", func := "swage/swagelaw04.PortOnce", spec := "portOnce", apart := false }
def PortOnceSaid : Prop := portOnceRow.holds Try.pinned (OpenSpec.ofChange portOnceSpec)

/-- ITS FALSE NEIGHBOUR: 'it returns false'. Refute it at one input. -/
def portOnceWrong : ChangeSpec := { name := "portOnce", fn := fun _ => fun
  | [d1, d2] => { results := [.lit (.bool false)], args := [d1, d2] }
  | _ => none }
def PortOnceWrongFalsely : Prop := portOnceRow.holds Try.pinned (OpenSpec.ofChange portOnceWrong)

/-- 'swagelaw09.NamesLooks': WHATEVER THE INPUT: true; the input reads as it did. -/
def namesLooksSpec : ChangeSpec := { name := "namesLooks", fn := fun _ => fun
  | [d] => { results := [.lit (.bool true)], args := [d] }
  | _ => none }
def namesLooksRow : OpenClaim := { program := "ytfffkfcemajcpaa", sum := "eef882398e0eb98923d1bc2faf4eec153e8319a68593799b26b26b4f91d02231", func := "swage/swagelaw09.NamesLooks", spec := "namesLooks", apart := false }
def NamesLooksSaid : Prop := namesLooksRow.holds Try.pinned (OpenSpec.ofChange namesLooksSpec)

/-- ITS FALSE NEIGHBOUR: 'it returns false'. Refute it at one input. -/
def namesLooksWrong : ChangeSpec := { name := "namesLooks", fn := fun _ => fun
  | [d] => { results := [.lit (.bool false)], args := [d] }
  | _ => none }
def NamesLooksWrongFalsely : Prop := namesLooksRow.holds Try.pinned (OpenSpec.ofChange namesLooksWrong)

/-- 'swagelaw09.NamesApart': WHATEVER THE INPUT: true; the input reads as it did. -/
def namesApartSpec : ChangeSpec := { name := "namesApart", fn := fun _ => fun
  | [d1, d2] => { results := [.lit (.bool true)], args := [d1, d2] }
  | _ => none }
def namesApartRow : OpenClaim := { program := "ytfffkfcemajcpaa", sum := "eef882398e0eb98923d1bc2faf4eec153e8319a68593799b26b26b4f91d02231", func := "swage/swagelaw09.NamesApart", spec := "namesApart", apart := false }
def NamesApartSaid : Prop := namesApartRow.holds Try.pinned (OpenSpec.ofChange namesApartSpec)

/-- ITS FALSE NEIGHBOUR: 'it returns false'. Refute it at one input. -/
def namesApartWrong : ChangeSpec := { name := "namesApart", fn := fun _ => fun
  | [d1, d2] => { results := [.lit (.bool false)], args := [d1, d2] }
  | _ => none }
def NamesApartWrongFalsely : Prop := namesApartRow.holds Try.pinned (OpenSpec.ofChange namesApartWrong)

/-- 'swagelaw04.PortPlays': WHATEVER THE INPUT: true; the input reads as it did. -/
def portPlaysSpec : ChangeSpec := { name := "portPlays", fn := fun _ => fun
  | [d1, d2] => { results := [.lit (.bool true)], args := [d1, d2] }
  | _ => none }
def portPlaysRow : OpenClaim := { program := "ytfffkfcemajcpaa", sum := "eef882398e0eb98923d1bc2faf4eec153e8319a68593799b26b26b4f91d02231", func := "swage/swagelaw04.PortPlays", spec := "portPlays", apart := false }
def PortPlaysSaid : Prop := portPlaysRow.holds Try.pinned (OpenSpec.ofChange portPlaysSpec)

/-- ITS FALSE NEIGHBOUR: 'it returns false'. Refute it at one input. -/
def portPlaysWrong : ChangeSpec := { name := "portPlays", fn := fun _ => fun
  | [d1, d2] => { results := [.lit (.bool false)], args := [d1, d2] }
  | _ => none }
def PortPlaysWrongFalsely : Prop := portPlaysRow.holds Try.pinned (OpenSpec.ofChange portPlaysWrong)

/-- 'swagelaw04.PortNil': WHATEVER THE INPUT: true; the input reads as it did. -/
def portNilSpec : ChangeSpec := { name := "portNil", fn := fun _ => fun
  | [d] => { results := [.lit (.bool true)], args := [d] }
  | _ => none }
def portNilRow : OpenClaim := { program := "ytfffkfcemajcpaa", sum := "eef882398e0eb98923d1bc2faf4eec153e8319a68593799b26b26b4f91d02231", func := "swage/swagelaw04.PortNil", spec := "portNil", apart := false }
def PortNilSaid : Prop := portNilRow.holds Try.pinned (OpenSpec.ofChange portNilSpec)

/-- ITS FALSE NEIGHBOUR: 'it returns false'. Refute it at one input. -/
def portNilWrong : ChangeSpec := { name := "portNil", fn := fun _ => fun
  | [d] => { results := [.lit (.bool false)], args := [d] }
  | _ => none }
def PortNilWrongFalsely : Prop := portNilRow.holds Try.pinned (OpenSpec.ofChange portNilWrong)

/-- 'swagelaw09.NamesHeads': WHATEVER THE INPUT: true; the input reads as it did. -/
def namesHeadsSpec : ChangeSpec := { name := "namesHeads", fn := fun _ => fun
  | [d1, d2] => { results := [.lit (.bool true)], args := [d1, d2] }
  | _ => none }
def namesHeadsRow : OpenClaim := { program := "ytfffkfcemajcpaa", sum := "eef882398e0eb98923d1bc2faf4eec153e8319a68593799b26b26b4f91d02231", func := "swage/swagelaw09.NamesHeads", spec := "namesHeads", apart := false }
def NamesHeadsSaid : Prop := namesHeadsRow.holds Try.pinned (OpenSpec.ofChange namesHeadsSpec)

/-- ITS FALSE NEIGHBOUR: 'it returns false'. Refute it at one input. -/
def namesHeadsWrong : ChangeSpec := { name := "namesHeads", fn := fun _ => fun
  | [d1, d2] => { results := [.lit (.bool false)], args := [d1, d2] }
  | _ => none }
def NamesHeadsWrongFalsely : Prop := namesHeadsRow.holds Try.pinned (OpenSpec.ofChange namesHeadsWrong)

/-- 'swagelaw09.NamesBack': WHATEVER THE INPUT: true; the input reads as it did. -/
def namesBackSpec : ChangeSpec := { name := "namesBack", fn := fun _ => fun
  | [d1, d2, d3] => { results := [.lit (.bool true)], args := [d1, d2, d3] }
  | _ => none }
def namesBackRow : OpenClaim := { program := "ytfffkfcemajcpaa", sum := "eef882398e0eb98923d1bc2faf4eec153e8319a68593799b26b26b4f91d02231", func := "swage/swagelaw09.NamesBack", spec := "namesBack", apart := false }
def NamesBackSaid : Prop := namesBackRow.holds Try.pinned (OpenSpec.ofChange namesBackSpec)

/-- ITS FALSE NEIGHBOUR: 'it returns false'. Refute it at one input. -/
def namesBackWrong : ChangeSpec := { name := "namesBack", fn := fun _ => fun
  | [d1, d2, d3] => { results := [.lit (.bool false)], args := [d1, d2, d3] }
  | _ => none }
def NamesBackWrongFalsely : Prop := namesBackRow.holds Try.pinned (OpenSpec.ofChange namesBackWrong)

/- THE SECOND FORM. 'bulk': how many values and letters a reading holds, each counted each time it is reached (what is shared counts as often as it is met; a slice's spare places count too). A statement '..UptoSaid' is the law's where the arguments, and the package variables that the reading takes, are together of bulk at most 1048576: NARROWER than '..Said'. Prove '..Said' where nothing that the law and all that it calls make is longer than what came in: it says more and counts as full. Else prove '..UptoSaid'. A law counts once. -/
mutual
def uptoBulk {H : Type} : DataW H → Nat
  | .lit (.string bytes) => bytes.length + 1
  | .lit _ => 1
  | .nil => 1
  | .ptr d => uptoBulk d + 1
  | .slice elems spare => uptoBulkAll elems + uptoBulkAll spare + 1
  | .agg parts => uptoBulkAll parts + 1
  | .iface _ d => uptoBulk d + 1
  | .map entries => uptoBulkEntries entries + 1
  | .held _ => 1
def uptoBulkAll {H : Type} : List (DataW H) → Nat
  | [] => 0
  | d :: r => uptoBulk d + uptoBulkAll r
def uptoBulkEntries {H : Type} : List (Lit × DataW H) → Nat
  | [] => 0
  | x :: r => uptoBulkEntry x + uptoBulkEntries r
def uptoBulkEntry {H : Type} : Lit × DataW H → Nat
  | (.string bytes, d) => bytes.length + uptoBulk d + 1
  | (_, d) => uptoBulk d + 1
 end
def uptoSmall : (H : Type) → List (DataW H) → Bool := fun _ ds => decide (uptoBulkAll ds ≤ 1048576)
def OpenSpec.upto (s : _root_.Go.ChangeSpec) : _root_.Go.OpenSpec := { _root_.Go.OpenSpec.ofChange s with cond := some uptoSmall }

/-- 'swagelaw04.PortOnce', WHERE WHAT IT READS IS OF BULK AT MOST 1048576: true; the input reads as it did. -/
def portOnceUptoRow : OpenClaim := { program := "ytfffkfcemajcpaa", sum := "eef882398e0eb98923d1bc2faf4eec153e8319a68593799b26b26b4f91d02231", func := "swage/swagelaw04.PortOnce", spec := "portOnce", apart := false, narrowed := true }
def PortOnceUptoSaid : Prop := portOnceUptoRow.holds Try.pinned (OpenSpec.upto portOnceSpec)

/-- 'swagelaw09.NamesLooks', WHERE WHAT IT READS IS OF BULK AT MOST 1048576: true; the input reads as it did. -/
def namesLooksUptoRow : OpenClaim := { program := "ytfffkfcemajcpaa", sum := "eef882398e0eb98923d1bc2faf4eec153e8319a68593799b26b26b4f91d02231", func := "swage/swagelaw09.NamesLooks", spec := "namesLooks", apart := false, narrowed := true }
def NamesLooksUptoSaid : Prop := namesLooksUptoRow.holds Try.pinned (OpenSpec.upto namesLooksSpec)

/-- 'swagelaw09.NamesApart', WHERE WHAT IT READS IS OF BULK AT MOST 1048576: true; the input reads as it did. -/
def namesApartUptoRow : OpenClaim := { program := "ytfffkfcemajcpaa", sum := "eef882398e0eb98923d1bc2faf4eec153e8319a68593799b26b26b4f91d02231", func := "swage/swagelaw09.NamesApart", spec := "namesApart", apart := false, narrowed := true }
def NamesApartUptoSaid : Prop := namesApartUptoRow.holds Try.pinned (OpenSpec.upto namesApartSpec)

/-- 'swagelaw04.PortPlays', WHERE WHAT IT READS IS OF BULK AT MOST 1048576: true; the input reads as it did. -/
def portPlaysUptoRow : OpenClaim := { program := "ytfffkfcemajcpaa", sum := "eef882398e0eb98923d1bc2faf4eec153e8319a68593799b26b26b4f91d02231", func := "swage/swagelaw04.PortPlays", spec := "portPlays", apart := false, narrowed := true }
def PortPlaysUptoSaid : Prop := portPlaysUptoRow.holds Try.pinned (OpenSpec.upto portPlaysSpec)

/-- 'swagelaw04.PortNil', WHERE WHAT IT READS IS OF BULK AT MOST 1048576: true; the input reads as it did. -/
def portNilUptoRow : OpenClaim := { program := "ytfffkfcemajcpaa", sum := "eef882398e0eb98923d1bc2faf4eec153e8319a68593799b26b26b4f91d02231", func := "swage/swagelaw04.PortNil", spec := "portNil", apart := false, narrowed := true }
def PortNilUptoSaid : Prop := portNilUptoRow.holds Try.pinned (OpenSpec.upto portNilSpec)

/-- 'swagelaw09.NamesHeads', WHERE WHAT IT READS IS OF BULK AT MOST 1048576: true; the input reads as it did. -/
def namesHeadsUptoRow : OpenClaim := { program := "ytfffkfcemajcpaa", sum := "eef882398e0eb98923d1bc2faf4eec153e8319a68593799b26b26b4f91d02231", func := "swage/swagelaw09.NamesHeads", spec := "namesHeads", apart := false, narrowed := true }
def NamesHeadsUptoSaid : Prop := namesHeadsUptoRow.holds Try.pinned (OpenSpec.upto namesHeadsSpec)

/-- 'swagelaw09.NamesBack', WHERE WHAT IT READS IS OF BULK AT MOST 1048576: true; the input reads as it did. -/
def namesBackUptoRow : OpenClaim := { program := "ytfffkfcemajcpaa", sum := "eef882398e0eb98923d1bc2faf4eec153e8319a68593799b26b26b4f91d02231", func := "swage/swagelaw09.NamesBack", spec := "namesBack", apart := false, narrowed := true }
def NamesBackUptoSaid : Prop := namesBackUptoRow.holds Try.pinned (OpenSpec.upto namesBackSpec)

end Rows
end Go.Proofs.Ytfffkfcemajcpaa
