/- The walk of the law MemoryPlays, as the frame hands the arguments in. -/
import Derived.Test.YtijekhdndegdaaaMmPlays
namespace Go.Proofs.Ytijekhdndegdaaa
open Go.RowKit Kit
theorem walk_memoryPlays (s : Int) (vh : Value) (hs : List (Nat × Nat)) (va : Value) (l : List Mm.Act) (w : World) (hs1 : -9223372036854775808 ≤ s ∧ s ≤ 9223372036854775807) (h : Rd w 2 vh hs.length (Mm.hc hs) ∧ (∀ x ∈ hs, Mm.SmallH x) ∧ hs.length ≤ maxLen)
    (ha : Rd w 5 va l.length (l.flatMap Mm.Act.cells) ∧ (∀ x ∈ l, x.ok w) ∧ l.length ≤ maxLen) :
    Calls Try.prog 10 #[.int .i64 s, vh, va] w fun e w' => e = .returned (.bool true) ∧ Below w.heap.size w w' := by
  obtain ⟨A, c, rfl⟩ := h.1.form
  obtain ⟨B, d, rfl⟩ := ha.1.form
  exact core_memoryPlays s A c hs B d l w hs1.1 hs1.2 h.1 h.2.2 (small_of h.2.1) ha.1 ha.2.1 ha.2.2
end Go.Proofs.Ytijekhdndegdaaa
