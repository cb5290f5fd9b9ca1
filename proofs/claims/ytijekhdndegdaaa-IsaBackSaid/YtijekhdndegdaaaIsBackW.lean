/- The walk of the law IsaBack, as the frame hands the arguments in. -/
import Derived.Test.YtijekhdndegdaaaIsOpen
import Derived.Test.YtijekhdndegdaaaIsBackL
namespace Go.Proofs.Ytijekhdndegdaaa
open Go.RowKit
theorem walk_isaBack (v : Value) (x : Is.Inst) (y : Int) (w : World) (f : v = x.v ∧ x.ok) (hy : 0 ≤ y ∧ y ≤ 4294967295) :
    Calls Try.prog 14 #[v, .int .u32 y] w fun e w' => e = .returned (.bool true) ∧ Below w.heap.size w w' := by
  obtain ⟨rfl, o⟩ := f
  obtain ⟨n, rfl⟩ := Int.eq_ofNat_of_zero_le hy.1
  exact core_isaBack x n w o (by omega)
end Go.Proofs.Ytijekhdndegdaaa
