/- The walk of the law NamesBack, as the frame hands the arguments in. -/
import Derived.Test.YtfffkfcemajcpaaNmBack
namespace Go.Proofs.Ytfffkfcemajcpaa
open Go.RowKit Kit
theorem walk_namesBack (v : Value) (x : HeadV) (vm : Value) (lm : List UInt8) (vb : Value) (l : List UInt8) (w : World) (f : v = x.v ∧ x.ok) (f1 : RdB w vm lm ∧ lm.length ≤ maxLen) (f2 : RdB w vb l ∧ l.length ≤ maxLen) :
    Calls Try.prog 9 #[v, vm, vb] w fun e w' => e = .returned (.bool true) ∧ Below w.heap.size w w' := by
  obtain ⟨rfl, o⟩ := f
  exact core_namesBack x.s x.fl x.a x.b x.c vm lm vb l w o.s o.a o.b o.c f1.1 f1.2 f2.1 f2.2
end Go.Proofs.Ytfffkfcemajcpaa
