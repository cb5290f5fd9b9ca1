/- The walk of the law IsaApart, as the frame hands the arguments in. -/
import Derived.Test.YtijekhdndegdaaaIsOpen
namespace Go.Proofs.Ytijekhdndegdaaa
open Go.RowKit
theorem walk_isaApart (v : Value) (x : Is.Inst) (v' : Value) (y : Is.Inst) (w : World) (f : v = x.v ∧ x.ok) (f' : v' = y.v ∧ y.ok) :
    Calls Try.prog 15 #[v, v'] w fun e w' => e = .returned (.bool true) ∧ Below w.heap.size w w' := by
  obtain ⟨rfl, o⟩ := f
  obtain ⟨rfl, o'⟩ := f'
  exact core_isaApart x y w o o'
end Go.Proofs.Ytijekhdndegdaaa
