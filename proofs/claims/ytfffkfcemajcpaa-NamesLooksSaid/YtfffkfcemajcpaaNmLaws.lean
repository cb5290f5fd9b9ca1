/- The walks of the laws on names. -/
import Derived.Test.YtfffkfcemajcpaaNmMem
namespace Go.Proofs.Ytfffkfcemajcpaa
open Go.RowKit Kit
set_option linter.unusedVariables false
set_option linter.unusedSimpArgs false

set_option maxHeartbeats 400000 in
theorem walk_namesLooks (s : ByteArray) (w : World) (hs : s.size ≤ maxLen) :
    Calls Try.prog 4 #[.string s] w fun e w' => e = .returned (.bool true) ∧ Below w.heap.size w w' := by
  have hm := hs
  unfold maxLen at hm
  by_cases h : 2000 < s.size
  · go_enter Try.func4, Try.ntmps4
    go_wp2_with (go_at_call 17; refine (knows_any _).mono ?_; rintro e w' ⟨rfl, hb⟩)
    go_ret
    exact ⟨rfl, hb⟩
  · generalize hR : Nm.right s.data.toList = R
    have HR := Lib.hid hR; clear hR
    have r1 : ∀ w, Calls Try.prog 18 #[.string s] w fun e w' => e = .returned (.bool R) ∧ w = w' := fun w => by have := right_own s w hs; rw [HR.out] at this; exact this
    have r2 : ∀ w, Calls Try.prog 19 #[.string s] w fun e w' => e = .returned (.bool R) ∧ w = w' := fun w => by have := right_ref s w hs; rw [HR.out] at this; exact this
    go_enter Try.func4, Try.ntmps4
    go_wp2_with (first | (go_at_call 18; refine (r1 _).mono ?_; rintro e w' ⟨rfl, rfl⟩) | (go_at_call 19; refine (r2 _).mono ?_; rintro e w' ⟨rfl, rfl⟩) | (go_at_call 20; refine (hash_own s _ hs).mono ?_; rintro e w2 ⟨rfl, hb2⟩) | (go_at_call 21; refine (hash_ref s _ hs).mono ?_; rintro e w' ⟨rfl, rfl⟩) | (go_at_call 22; refine (len_own s _ hs).mono ?_; rintro e w' ⟨rfl, rfl⟩) | (go_at_call 23; refine (len_ref s _ hs).mono ?_; rintro e w' ⟨rfl, rfl⟩) | (go_at_call 17; refine (knows_any _).mono ?_; rintro e w3 ⟨rfl, hb3⟩))
    go_ret
    exact ⟨rfl, hb2.trans (hb3.mono hb2.size)⟩

end Go.Proofs.Ytfffkfcemajcpaa
