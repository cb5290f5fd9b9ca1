/- The walk of the law NamesApart, as the frame hands the arguments in. -/
import Derived.Test.YtfffkfcemajcpaaNmApart
import Derived.Test.YtfffkfcemajcpaaNmOpen
namespace Go.Proofs.Ytfffkfcemajcpaa
open Go.RowKit Kit
theorem walk_namesApart (v : Value) (x : HeadV) (v' : Value) (y : HeadV) (w : World) (f : v = x.v ∧ x.ok) (f' : v' = y.v ∧ y.ok) :
    Calls Try.prog 5 #[v, v'] w fun e w' => e = .returned (.bool true) ∧ Below w.heap.size w w' := by
  obtain ⟨rfl, o⟩ := f
  obtain ⟨rfl, o'⟩ := f'
  exact core_namesApart x.s x.fl x.a x.b x.c y.s y.fl y.a y.b y.c w o.s o.a o.b o.c o'.s o'.a o'.b o'.c
end Go.Proofs.Ytfffkfcemajcpaa
