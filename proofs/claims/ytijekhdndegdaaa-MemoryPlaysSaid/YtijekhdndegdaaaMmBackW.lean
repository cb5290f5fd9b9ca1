/- The walk of the law MemoryBack, as the frame hands the arguments in. -/
import Derived.Test.YtijekhdndegdaaaMmOpen
import Derived.Test.YtijekhdndegdaaaMmBack
namespace Go.Proofs.Ytijekhdndegdaaa
open Go.RowKit Kit
theorem small_of {hs : List (Nat × Nat)} (h : ∀ x ∈ hs, Mm.SmallH x) : ∀ j, j < hs.length → (hs.getD j (0, 0)).1 < 4294967296 ∧ (hs.getD j (0, 0)).2 < 4294967296 := by
  intro j hj
  have := h (hs.getD j (0, 0)) (by rw [List.getD_eq_getElem?_getD, List.getElem?_eq_getElem hj]; simp)
  exact this
theorem walk_memoryBack (s : Int) (vh : Value) (hs : List (Nat × Nat)) (a k v o : Int) (w : World) (hs1 : -9223372036854775808 ≤ s ∧ s ≤ 9223372036854775807) (h : Rd w 2 vh hs.length (Mm.hc hs) ∧ (∀ x ∈ hs, Mm.SmallH x) ∧ hs.length ≤ maxLen)
    (ha : 0 ≤ a ∧ a ≤ 4294967295) (_ : -9223372036854775808 ≤ k ∧ k ≤ 9223372036854775807) (hv : 0 ≤ v ∧ v ≤ 4294967295) (ho : 0 ≤ o ∧ o ≤ 4294967295) :
    Calls Try.prog 3 #[.int .i64 s, vh, .int .u32 a, .int .i64 k, .int .u32 v, .int .u32 o] w fun e w' => e = .returned (.bool true) ∧ Below w.heap.size w w' := by
  obtain ⟨m, rfl⟩ := Int.eq_ofNat_of_zero_le ha.1
  obtain ⟨n, rfl⟩ := Int.eq_ofNat_of_zero_le hv.1
  obtain ⟨o, rfl⟩ := Int.eq_ofNat_of_zero_le ho.1
  obtain ⟨A, c, rfl⟩ := h.1.form
  exact core_memoryBack s A c hs m k n o w hs1.1 hs1.2 h.1 h.2.2 (small_of h.2.1) (by omega) (by omega) (by omega)
end Go.Proofs.Ytijekhdndegdaaa
