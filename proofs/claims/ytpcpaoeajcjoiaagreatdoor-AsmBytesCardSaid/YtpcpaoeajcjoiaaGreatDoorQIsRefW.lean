/- Texts joined, what is not reached left out. -/
import Derived.Test.YtpcpaoeajcjoiaaGreatDoorIB
/- Walks: the document's shapes and bounds. -/
namespace Go.Proofs.YtpcpaoeajcjoiaaGreatDoor
open Go.RowKit
set_option linter.unusedVariables false
set_option linter.unusedSimpArgs false

set_option maxHeartbeats 4000000 in
theorem shape_ref (op : Int) (w : World) : Calls Tryz.prog 145 #[.int .i64 op] w fun e w' => e = .returned (.int .i64 (Is.shape op)) ∧ w = w' := by
  go_enter Tryz.func145, Tryz.ntmps145
  go_wp2
  all_goals (go_ret; refine ⟨ret_int ?_, rfl⟩; unfold Is.shape; (try simp only [beq_iff_eq, beq_eq_false_iff_ne] at *); (repeat' split) <;> omega)
theorem in_ref (lo n hi : Int) (w : World) : Calls Tryz.prog 226 #[.int .i64 lo, .int .i64 n, .int .i64 hi] w fun e w' => e = .returned (.bool (decide (lo ≤ n) && decide (n ≤ hi))) ∧ w = w' := by
  by_cases h1 : lo ≤ n
  · by_cases h2 : n ≤ hi
    · have E := Lib.hid (show (decide (lo ≤ n) && decide (n ≤ hi)) = true by simp [h1, h2])
      go_enter Tryz.func226, Tryz.ntmps226
      go_wp2
      go_ret
      exact ⟨ret_bool (by first | (rw [E.out]; done) | (rw [E.out]; rfl) | simp [E.out]), rfl⟩
    · have E := Lib.hid (show decide (n ≤ hi) = false by simp [h2])
      go_enter Tryz.func226, Tryz.ntmps226
      go_wp2
      go_ret
      exact ⟨ret_bool (by first | (rw [E.out]; done) | (rw [E.out]; rfl) | simp [E.out]), rfl⟩
  · have E := Lib.hid (show decide (lo ≤ n) = false by simp [h1])
    go_enter Tryz.func226, Tryz.ntmps226
    go_wp2
    go_ret
    exact ⟨ret_bool (by first | (rw [E.out]; done) | (rw [E.out]; rfl) | simp [E.out]), rfl⟩
end Go.Proofs.YtpcpaoeajcjoiaaGreatDoor
