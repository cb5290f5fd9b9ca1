/- The walk of the law PortPlays, as the frame hands the arguments in. -/
import Derived.Test.YtfffkfcemajcpaaPtPlays
namespace Go.Proofs.Ytfffkfcemajcpaa
open Go.RowKit Kit
theorem walk_portPlays (vi : Value) (l : List UInt8) (va : Value) (acts : List Pt.Act) (w : World) (h : (RdB w vi l ∧ l.length ≤ maxLen) ∧ l.length ≤ 140737488351232)
    (ha : Rd w 2 va acts.length (acts.flatMap Pt.Act.cells) ∧ (∀ x ∈ acts, x.ok) ∧ acts.length ≤ maxLen) :
    Calls Try.prog 6 #[vi, va] w fun e w' => e = .returned (.bool true) ∧ Below w.heap.size w w' := by
  obtain ⟨A, c, rfl⟩ := h.1.1.length
  obtain ⟨B, d, rfl⟩ := ha.1.form
  exact core_portPlays w A c l B d acts h.1.1 h.2 ha.1 ha.2.1 ha.2.2
end Go.Proofs.Ytfffkfcemajcpaa
