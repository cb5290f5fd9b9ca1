/- The walk of the law MemoryNil, as the frame hands the arguments in. -/
import Derived.Test.YtijekhdndegdaaaMmNil
namespace Go.Proofs.Ytijekhdndegdaaa
open Go.RowKit Kit
theorem walk_memoryNil (v : Value) (x : Mm.Act) (w : World) (f : v = .agg x.cells.toArray ∧ x.ok w) :
    Calls Try.prog 11 #[v] w fun e w' => e = .returned (.bool true) ∧ Below w.heap.size w w' := by
  obtain ⟨rfl, o⟩ := f
  exact core_memoryNil x w o
end Go.Proofs.Ytijekhdndegdaaa
