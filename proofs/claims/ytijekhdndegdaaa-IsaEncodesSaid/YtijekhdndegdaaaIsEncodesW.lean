/- The walk of the law IsaEncodes, as the frame hands the arguments in. -/
import Derived.Test.YtijekhdndegdaaaIsOpen
import Derived.Test.YtijekhdndegdaaaIsEncodesL
namespace Go.Proofs.Ytijekhdndegdaaa
open Go.RowKit
theorem walk_isaEncodes (v : Value) (x : Is.Inst) (w : World) (f : v = x.v ∧ x.ok) :
    Calls Try.prog 12 #[v] w fun e w' => e = .returned (.bool true) ∧ Below w.heap.size w w' := by
  obtain ⟨rfl, o⟩ := f
  exact core_isaEncodes x w o
end Go.Proofs.Ytijekhdndegdaaa
