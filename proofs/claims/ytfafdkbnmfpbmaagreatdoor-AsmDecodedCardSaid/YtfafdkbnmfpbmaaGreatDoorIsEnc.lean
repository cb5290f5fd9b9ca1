/- The walk of isa.Encode. -/
import Derived.Test.YtfafdkbnmfpbmaaGreatDoorIsLegal
import Derived.Deep.RegionHeld3
import Derived.StillTailTactics
import Derived.Outline
namespace Go.Proofs.YtfafdkbnmfpbmaaGreatDoor
open Go.RowKit
set_option linter.unusedVariables false
set_option linter.unusedSimpArgs false

/-- A shape's pieces: from, n, at. -/
def Is.pieces (s : Int) : List (Int × Int × Int) :=
  if s = 0 then [(0, 20, 12)] else if s = 1 then [(12, 8, 12), (11, 1, 20), (1, 10, 21), (20, 1, 31)] else if s = 3 then [(11, 1, 7), (1, 4, 8), (5, 6, 25), (12, 1, 31)]
  else if s = 4 then [(0, 5, 7), (5, 7, 25)] else if s = 5 then [(0, 5, 20)] else if s = 2 ∨ s = 8 then [(0, 12, 20)] else []
/-- v is a slice of these pieces. -/
def PieceV (w : World) (v : Value) (ps : List (Int × Int × Int)) : Prop :=
  (v = .slice none 0 0 ∧ ps = []) ∨ ∃ g, v = .slice (some ⟨g, 0, none⟩) ps.length ps.length ∧ g < w.heap.size ∧ ∀ j, j < ps.length →
    w.cell? ⟨g, j * 3, none⟩ = some (.int .i64 (ps.getD j (0, 0, 0)).1) ∧ w.cell? ⟨g, j * 3 + 1, none⟩ = some (.int .i64 (ps.getD j (0, 0, 0)).2.1) ∧ w.cell? ⟨g, j * 3 + 2, none⟩ = some (.int .i64 (ps.getD j (0, 0, 0)).2.2)
set_option maxHeartbeats 4000000 in
theorem pieces_own (s : Int) (w : World) (h : s = 0 ∨ s = 1 ∨ s = 2 ∨ s = 3 ∨ s = 4 ∨ s = 5 ∨ s = 6 ∨ s = 7 ∨ s = 8) : Calls Tryz.prog 244 #[.int .i64 s] w fun e w' => ∃ v, e = .returned v ∧ PieceV w' v (Is.pieces s) ∧ Below w.heap.size w w' := by
  rcases h with rfl | rfl | rfl | rfl | rfl | rfl | rfl | rfl | rfl
  all_goals
    go_enter Tryz.func244, Tryz.ntmps244
    go_wp2
    go_ret
    first
      | exact ⟨_, rfl, .inl ⟨rfl, by decide⟩, Below.refl _ _⟩
      | (refine ⟨_, rfl, .inr ⟨w.heap.size, rfl, by simp, ?_⟩, (Below.refl _ _).alloc (Nat.le_refl _) _⟩
         intro j hj
         have hj' : j = 0 ∨ j = 1 ∨ j = 2 ∨ j = 3 := by simp [Is.pieces] at hj; omega
         rcases hj' with rfl | rfl | rfl | rfl <;> first | (exfalso; revert hj; decide) | (refine ⟨?_, ?_, ?_⟩ <;> go_simp <;> simp [Is.pieces]))
end Go.Proofs.YtfafdkbnmfpbmaaGreatDoor
