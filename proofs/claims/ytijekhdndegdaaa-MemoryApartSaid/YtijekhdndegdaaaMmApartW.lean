/- The walk of the law MemoryApart, as the frame hands the arguments in. -/
import Derived.Test.YtijekhdndegdaaaMmApart
namespace Go.Proofs.Ytijekhdndegdaaa
open Go.RowKit Kit
theorem bt : ByteTy Try.prog 34 5 := mbt
theorem walk_memoryApart (vb : Value) (l : List UInt8) (a v : Int) (w : World) (f : RdB w vb l ∧ l.length ≤ maxLen) (ha : 0 ≤ a ∧ a ≤ 4294967295) (hv : 0 ≤ v ∧ v ≤ 4294967295) :
    Calls Try.prog 9 #[vb, .int .u32 a, .int .u32 v] w fun e w' => e = .returned (.bool true) ∧ Below w.heap.size w w' := by
  obtain ⟨m, rfl⟩ := Int.eq_ofNat_of_zero_le ha.1
  obtain ⟨n, rfl⟩ := Int.eq_ofNat_of_zero_le hv.1
  exact core_memoryApart vb l m n w f.1 f.2 (by omega) (by omega)
end Go.Proofs.Ytijekhdndegdaaa
