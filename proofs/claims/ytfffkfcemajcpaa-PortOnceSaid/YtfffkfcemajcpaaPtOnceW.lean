/- The walk of the law PortOnce, as the frame hands the arguments in. -/
import Derived.Test.YtfffkfcemajcpaaPtOnce
namespace Go.Proofs.Ytfffkfcemajcpaa
open Go.RowKit Kit
theorem bt : ByteTy Try.prog 22 5 := pbt
theorem walk_portOnce (v : Value) (l : List UInt8) (m : Int) (w : World) (f : RdB w v l ∧ l.length ≤ maxLen) (hm : -9223372036854775808 ≤ m ∧ m ≤ 9223372036854775807) :
    Calls Try.prog 3 #[v, .int .i64 m] w fun e w' => e = .returned (.bool true) ∧ Below w.heap.size w w' :=
  core_portOnce v l m w f.1 f.2 hm.1 hm.2
end Go.Proofs.Ytfffkfcemajcpaa
