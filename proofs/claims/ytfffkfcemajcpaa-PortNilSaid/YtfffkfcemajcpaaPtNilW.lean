/- The walk of the law PortNil, as the frame hands the arguments in. -/
import Derived.Test.YtfffkfcemajcpaaPtLaws
namespace Go.Proofs.Ytfffkfcemajcpaa
open Go.RowKit Kit
theorem walk_portNil (v : Int) (w : World) (hv : 0 ≤ v ∧ v ≤ 4294967295) :
    Calls Try.prog 7 #[.int .u32 v] w fun e w' => e = .returned (.bool true) ∧ Below w.heap.size w w' := by
  obtain ⟨n, rfl⟩ := Int.eq_ofNat_of_zero_le hv.1
  exact core_portNil n (by omega) w
end Go.Proofs.Ytfffkfcemajcpaa
