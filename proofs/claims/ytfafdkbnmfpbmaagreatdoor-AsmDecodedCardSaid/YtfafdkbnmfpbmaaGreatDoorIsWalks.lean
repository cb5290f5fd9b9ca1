/- Walks of the small functions of isa and of the document's. -/
import Derived.Test.YtfafdkbnmfpbmaaGreatDoorIsForms
import Derived.Test.YtfafdkbnmfpbmaaGreatDoorBtMin
namespace Go.Proofs.YtfafdkbnmfpbmaaGreatDoor
open Go.RowKit
set_option linter.unusedVariables false
set_option linter.unusedSimpArgs false
theorem index_form (i : Nat) (hi : i < 48) (w : World) : (Instr.index 143 (.agg Is.cells) (.int .i64 (i : Int))).run Tryz.prog w = .ok (.agg (Is.fv (Is.forms.getD i default)).toArray) w :=
  match i, hi with
  | 0, _ => by kernel_rfl
  | 1, _ => by kernel_rfl
  | 2, _ => by kernel_rfl
  | 3, _ => by kernel_rfl
  | 4, _ => by kernel_rfl
  | 5, _ => by kernel_rfl
  | 6, _ => by kernel_rfl
  | 7, _ => by kernel_rfl
  | 8, _ => by kernel_rfl
  | 9, _ => by kernel_rfl
  | 10, _ => by kernel_rfl
  | 11, _ => by kernel_rfl
  | 12, _ => by kernel_rfl
  | 13, _ => by kernel_rfl
  | 14, _ => by kernel_rfl
  | 15, _ => by kernel_rfl
  | 16, _ => by kernel_rfl
  | 17, _ => by kernel_rfl
  | 18, _ => by kernel_rfl
  | 19, _ => by kernel_rfl
  | 20, _ => by kernel_rfl
  | 21, _ => by kernel_rfl
  | 22, _ => by kernel_rfl
  | 23, _ => by kernel_rfl
  | 24, _ => by kernel_rfl
  | 25, _ => by kernel_rfl
  | 26, _ => by kernel_rfl
  | 27, _ => by kernel_rfl
  | 28, _ => by kernel_rfl
  | 29, _ => by kernel_rfl
  | 30, _ => by kernel_rfl
  | 31, _ => by kernel_rfl
  | 32, _ => by kernel_rfl
  | 33, _ => by kernel_rfl
  | 34, _ => by kernel_rfl
  | 35, _ => by kernel_rfl
  | 36, _ => by kernel_rfl
  | 37, _ => by kernel_rfl
  | 38, _ => by kernel_rfl
  | 39, _ => by kernel_rfl
  | 40, _ => by kernel_rfl
  | 41, _ => by kernel_rfl
  | 42, _ => by kernel_rfl
  | 43, _ => by kernel_rfl
  | 44, _ => by kernel_rfl
  | 45, _ => by kernel_rfl
  | 46, _ => by kernel_rfl
  | 47, _ => by kernel_rfl
  | n + 48, h => absurd h (by omega)
/-- The shape of an Op; -1: there is none. -/
def Is.shape (op : Int) : Int :=
  if op < 0 ∨ 48 ≤ op then -1 else if op ≤ 1 then 0 else if op = 2 then 1 else if 4 ≤ op ∧ op ≤ 9 then 3 else if 15 ≤ op ∧ op ≤ 17 then 4 else if 24 ≤ op ∧ op ≤ 26 then 5
  else if op = 37 then 8 else if op = 38 ∨ op = 39 then 7 else if 27 ≤ op then 6 else 2
set_option maxHeartbeats 4000000 in
theorem shape_own (op : Int) (w : World) : Calls Tryz.prog 68 #[.int .i64 op] w fun e w' => e = .returned (.int .i64 (Is.shape op)) ∧ w = w' := by
  go_enter Tryz.func68, Tryz.ntmps68
  go_wp2
  all_goals (go_ret; refine ⟨ret_int ?_, rfl⟩; unfold Is.shape; (try simp only [beq_iff_eq, beq_eq_false_iff_ne] at *); (repeat' split) <;> omega)
def Is.nameOf (op : Int) : ByteArray := if op < 0 ∨ 48 ≤ op then ⟨#[]⟩ else ⟨(Is.forms.getD op.toNat default).name.toArray⟩
theorem reg_own (n : Int) (has : Bool) (w : World) : Calls Tryz.prog 279 #[.int .i64 n, .bool has] w fun e w' => e = .returned (.bool (decide (n = 0) || (has && (decide (0 < n) && decide (n < 32))))) ∧ w = w' := by
  cases has
  · by_cases h0 : n = 0
    · subst h0
      go_enter Tryz.func279, Tryz.ntmps279
      go_wp2
      go_ret
      exact ⟨rfl, rfl⟩
    · have g0 : (n == 0) = false := by simpa using h0
      have HF := Lib.hid (show decide (n = 0) = false by simpa using h0)
      go_enter Tryz.func279, Tryz.ntmps279
      go_wp2
      go_ret
      exact ⟨ret_bool (by rw [HF.out]; rfl), rfl⟩
  · by_cases h0 : n = 0
    · subst h0
      go_enter Tryz.func279, Tryz.ntmps279
      go_wp2
      go_ret
      exact ⟨rfl, rfl⟩
    · have g0 : (n == 0) = false := by simpa using h0
      have HF := Lib.hid (show decide (n = 0) = false by simpa using h0)
      clear h0
      by_cases h1 : 0 < n
      · by_cases h2 : n < 32
        · have E := Lib.hid (show (decide (0 < n) && decide (n < 32)) = true by simp [h1, h2])
          go_enter Tryz.func279, Tryz.ntmps279
          go_wp2
          go_ret
          exact ⟨ret_bool (by first | (rw [HF.out, E.out]; rfl) | simp [HF.out, E.out]), rfl⟩
        · have E := Lib.hid (show decide (n < 32) = false by simp [h2])
          go_enter Tryz.func279, Tryz.ntmps279
          go_wp2
          go_ret
          exact ⟨ret_bool (by first | (rw [HF.out, E.out]; rfl) | simp [HF.out, E.out]), rfl⟩
      · have E := Lib.hid (show decide (0 < n) = false by simp [h1])
        go_enter Tryz.func279, Tryz.ntmps279
        go_wp2
        go_ret
        exact ⟨ret_bool (by first | (rw [HF.out, E.out]; rfl) | simp [HF.out, E.out]), rfl⟩
/-- Which fields a shape has, and what its Imm may be. -/
structure Is.Uses where
  rd : Bool
  rs1 : Bool
  rs2 : Bool
  least : Int
  most : Int
  even : Bool
abbrev Is.Uses.v (u : Is.Uses) : Value := .agg #[.bool u.rd, .bool u.rs1, .bool u.rs2, .int .i64 u.least, .int .i64 u.most, .bool u.even]
def Is.uses (s : Int) : Is.Uses :=
  if s = 0 then ⟨true, false, false, 0, 1048575, false⟩ else if s = 1 then ⟨true, false, false, -1048576, 1048574, true⟩ else if s = 2 then ⟨true, true, false, -2048, 2047, false⟩
  else if s = 3 then ⟨false, true, true, -4096, 4094, true⟩ else if s = 4 then ⟨false, true, true, -2048, 2047, false⟩ else if s = 5 then ⟨true, true, false, 0, 31, false⟩
  else if s = 6 then ⟨true, true, true, 0, 0, false⟩ else if s = 8 then ⟨false, false, false, -2048, 2047, false⟩ else ⟨false, false, false, 0, 0, false⟩
theorem uses_own (s : Int) (w : World) (h : s = -1 ∨ s = 0 ∨ s = 1 ∨ s = 2 ∨ s = 3 ∨ s = 4 ∨ s = 5 ∨ s = 6 ∨ s = 7 ∨ s = 8) : Calls Tryz.prog 278 #[.int .i64 s] w fun e w' => e = .returned (Is.uses s).v ∧ Below w.heap.size w w' := by
  rcases h with rfl | rfl | rfl | rfl | rfl | rfl | rfl | rfl | rfl | rfl
  all_goals
    go_enter Tryz.func278, Tryz.ntmps278
    go_wp2
    exact bodyPost_ret (v := (Is.uses _).v) (by simp [results, Tryz.results278, go_sem, Is.uses]) rfl ⟨rfl, (Below.refl _ _).alloc (Nat.le_refl _) _⟩
end Go.Proofs.YtfafdkbnmfpbmaaGreatDoor
