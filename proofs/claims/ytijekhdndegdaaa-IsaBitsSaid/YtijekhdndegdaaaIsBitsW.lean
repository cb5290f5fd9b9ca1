/- The walk of the law IsaBits, as the frame hands the arguments in. -/
import Derived.Test.YtijekhdndegdaaaIsOpen
import Derived.Test.YtijekhdndegdaaaIsBitsL
namespace Go.Proofs.Ytijekhdndegdaaa
open Go.RowKit
theorem walk_isaBits (v : Value) (x : Is.Inst) (r m : Int) (w : World) (f : v = x.v ∧ x.ok) (hr : -9223372036854775808 ≤ r ∧ r ≤ 9223372036854775807) (hm : -9223372036854775808 ≤ m ∧ m ≤ 9223372036854775807) :
    Calls Try.prog 16 #[v, .int .i64 r, .int .i64 m] w fun e w' => e = .returned (.bool true) ∧ Below w.heap.size w w' := by
  obtain ⟨rfl, o⟩ := f
  exact core_isaBits x r m w o hr hm
end Go.Proofs.Ytijekhdndegdaaa
