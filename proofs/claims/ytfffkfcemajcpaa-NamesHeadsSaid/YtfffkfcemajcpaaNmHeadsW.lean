/- The walk of the law NamesHeads, as the frame hands the arguments in. -/
import Derived.Test.YtfffkfcemajcpaaNmHeads
namespace Go.Proofs.Ytfffkfcemajcpaa
open Go.RowKit Kit
theorem walk_namesHeads (v : Value) (x : HeadV) (vb : Value) (l : List UInt8) (w : World) (f : v = x.v ∧ x.ok) (f' : RdB w vb l ∧ l.length ≤ maxLen) :
    Calls Try.prog 8 #[v, vb] w fun e w' => e = .returned (.bool true) ∧ Below w.heap.size w w' := by
  obtain ⟨rfl, o⟩ := f
  exact core_namesHeads x.s x.fl x.a x.b x.c vb l w o.s o.a o.b o.c f'.1 f'.2
end Go.Proofs.Ytfffkfcemajcpaa
