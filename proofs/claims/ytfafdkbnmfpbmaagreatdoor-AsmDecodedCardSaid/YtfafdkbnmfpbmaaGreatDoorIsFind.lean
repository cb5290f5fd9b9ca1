/- Walks: one, alu, small, find: a word's Op. -/
import Derived.Test.YtfafdkbnmfpbmaaGreatDoorIsLegal
namespace Go.Proofs.YtfafdkbnmfpbmaaGreatDoor
open Go.RowKit
set_option linter.unusedVariables false
set_option linter.unusedSimpArgs false

/-- An Op by its three bits. -/
def Is.one (row : List Int) (n t : Nat) : Int := if t < n ∧ 0 ≤ row.getD t 0 then row.getD t 0 else -1
theorem one_own (row : List Int) (n t : Nat) (g cap : Nat) (w : World) (ht : t < 4294967296) (hn : n ≤ row.length) (hr : row.length ≤ 8) (hc : ∀ j, j < row.length → w.cell? ⟨g, j, none⟩ = some (.int .i64 (row.getD j 0))) :
    Calls Tryz.prog 129 #[.int .u32 t, .int .u32 0, .int .u32 n, .slice (some ⟨g, 0, none⟩) row.length cap] w fun e w' => e = .returned (.int .i64 (Is.one row n t)) ∧ w = w' := by
  by_cases h : t < n
  · have hcell := hc t (by omega)
    have h0 : (t : Int) < n := by omega
    have h2 : t < row.length := by omega
    have h3 : (t : Int) < row.length := by omega
    have HO := Lib.hid (show Is.one row n t = if 0 ≤ row.getD t 0 then row.getD t 0 else -1 by simp [Is.one, h])
    clear hc
    generalize row.getD t 0 = x at *
    by_cases h1 : 0 ≤ x
    · rw [if_pos h1] at HO
      go_enter Tryz.func129, Tryz.ntmps129
      go_wp2
      go_ret
      exact ⟨ret_int (by rw [HO.out]), rfl⟩
    · rw [if_neg h1] at HO
      go_enter Tryz.func129, Tryz.ntmps129
      go_wp2
      go_ret
      exact ⟨ret_int (by rw [HO.out]), rfl⟩
  · have h0 : ¬ (t : Int) < n := by omega
    have HO := Lib.hid (show Is.one row n t = -1 by simp [Is.one, h])
    clear hc
    go_enter Tryz.func129, Tryz.ntmps129
    go_wp2
    go_ret
    exact ⟨ret_int (by rw [HO.out]), rfl⟩
def Is.row_jalr : List Int := [3]
theorem one_jalr (t : Nat) (W : World) (ht : t < 4294967296) : Calls Tryz.prog 129 #[.int .u32 t, .int .u32 0, .int .u32 1, .slice (some ⟨W.heap.size, 0, none⟩) 1 1] (W.alloc (.cells #[.int .i64 (3)] 3)) fun e w' => e = .returned (.int .i64 (Is.one Is.row_jalr 1 t)) ∧ (W.alloc (.cells #[.int .i64 (3)] 3)) = w' :=
  one_own Is.row_jalr 1 t W.heap.size 1 _ ht (by decide) (by decide) (fun j hj => by
    rw [World.cell?_alloc_at _ _ _ _ rfl]
    have hj' : j = 0 ∨ j = 1 ∨ j = 2 ∨ j = 3 ∨ j = 4 ∨ j = 5 ∨ j = 6 ∨ j = 7 := by
      have : Is.row_jalr.length ≤ 8 := by decide
      omega
    rcases hj' with rfl | rfl | rfl | rfl | rfl | rfl | rfl | rfl <;> first | rfl | (exfalso; revert hj; decide))
def Is.row_branch : List Int := [4, 5, -1, -1, 6, 7, 8, 9]
theorem one_branch (t : Nat) (W : World) (ht : t < 4294967296) : Calls Tryz.prog 129 #[.int .u32 t, .int .u32 0, .int .u32 8, .slice (some ⟨W.heap.size, 0, none⟩) 8 8] (W.alloc (.cells #[.int .i64 (4), .int .i64 (5), .int .i64 (-1), .int .i64 (-1), .int .i64 (6), .int .i64 (7), .int .i64 (8), .int .i64 (9)] 3)) fun e w' => e = .returned (.int .i64 (Is.one Is.row_branch 8 t)) ∧ (W.alloc (.cells #[.int .i64 (4), .int .i64 (5), .int .i64 (-1), .int .i64 (-1), .int .i64 (6), .int .i64 (7), .int .i64 (8), .int .i64 (9)] 3)) = w' :=
  one_own Is.row_branch 8 t W.heap.size 8 _ ht (by decide) (by decide) (fun j hj => by
    rw [World.cell?_alloc_at _ _ _ _ rfl]
    have hj' : j = 0 ∨ j = 1 ∨ j = 2 ∨ j = 3 ∨ j = 4 ∨ j = 5 ∨ j = 6 ∨ j = 7 := by
      have : Is.row_branch.length ≤ 8 := by decide
      omega
    rcases hj' with rfl | rfl | rfl | rfl | rfl | rfl | rfl | rfl <;> first | rfl | (exfalso; revert hj; decide))
def Is.row_load : List Int := [10, 11, 12, -1, 13, 14]
theorem one_load (t : Nat) (W : World) (ht : t < 4294967296) : Calls Tryz.prog 129 #[.int .u32 t, .int .u32 0, .int .u32 6, .slice (some ⟨W.heap.size, 0, none⟩) 6 6] (W.alloc (.cells #[.int .i64 (10), .int .i64 (11), .int .i64 (12), .int .i64 (-1), .int .i64 (13), .int .i64 (14)] 3)) fun e w' => e = .returned (.int .i64 (Is.one Is.row_load 6 t)) ∧ (W.alloc (.cells #[.int .i64 (10), .int .i64 (11), .int .i64 (12), .int .i64 (-1), .int .i64 (13), .int .i64 (14)] 3)) = w' :=
  one_own Is.row_load 6 t W.heap.size 6 _ ht (by decide) (by decide) (fun j hj => by
    rw [World.cell?_alloc_at _ _ _ _ rfl]
    have hj' : j = 0 ∨ j = 1 ∨ j = 2 ∨ j = 3 ∨ j = 4 ∨ j = 5 ∨ j = 6 ∨ j = 7 := by
      have : Is.row_load.length ≤ 8 := by decide
      omega
    rcases hj' with rfl | rfl | rfl | rfl | rfl | rfl | rfl | rfl <;> first | rfl | (exfalso; revert hj; decide))
def Is.row_store : List Int := [15, 16, 17]
theorem one_store (t : Nat) (W : World) (ht : t < 4294967296) : Calls Tryz.prog 129 #[.int .u32 t, .int .u32 0, .int .u32 3, .slice (some ⟨W.heap.size, 0, none⟩) 3 3] (W.alloc (.cells #[.int .i64 (15), .int .i64 (16), .int .i64 (17)] 3)) fun e w' => e = .returned (.int .i64 (Is.one Is.row_store 3 t)) ∧ (W.alloc (.cells #[.int .i64 (15), .int .i64 (16), .int .i64 (17)] 3)) = w' :=
  one_own Is.row_store 3 t W.heap.size 3 _ ht (by decide) (by decide) (fun j hj => by
    rw [World.cell?_alloc_at _ _ _ _ rfl]
    have hj' : j = 0 ∨ j = 1 ∨ j = 2 ∨ j = 3 ∨ j = 4 ∨ j = 5 ∨ j = 6 ∨ j = 7 := by
      have : Is.row_store.length ≤ 8 := by decide
      omega
    rcases hj' with rfl | rfl | rfl | rfl | rfl | rfl | rfl | rfl <;> first | rfl | (exfalso; revert hj; decide))
def Is.row_imm : List Int := [18, -1, 19, 20, 21, -1, 22, 23]
theorem one_imm (t : Nat) (W : World) (ht : t < 4294967296) : Calls Tryz.prog 129 #[.int .u32 t, .int .u32 0, .int .u32 8, .slice (some ⟨W.heap.size, 0, none⟩) 8 8] (W.alloc (.cells #[.int .i64 (18), .int .i64 (-1), .int .i64 (19), .int .i64 (20), .int .i64 (21), .int .i64 (-1), .int .i64 (22), .int .i64 (23)] 3)) fun e w' => e = .returned (.int .i64 (Is.one Is.row_imm 8 t)) ∧ (W.alloc (.cells #[.int .i64 (18), .int .i64 (-1), .int .i64 (19), .int .i64 (20), .int .i64 (21), .int .i64 (-1), .int .i64 (22), .int .i64 (23)] 3)) = w' :=
  one_own Is.row_imm 8 t W.heap.size 8 _ ht (by decide) (by decide) (fun j hj => by
    rw [World.cell?_alloc_at _ _ _ _ rfl]
    have hj' : j = 0 ∨ j = 1 ∨ j = 2 ∨ j = 3 ∨ j = 4 ∨ j = 5 ∨ j = 6 ∨ j = 7 := by
      have : Is.row_imm.length ≤ 8 := by decide
      omega
    rcases hj' with rfl | rfl | rfl | rfl | rfl | rfl | rfl | rfl <;> first | rfl | (exfalso; revert hj; decide))
def Is.row_reg0 : List Int := [27, 29, 30, 31, 32, 33, 35, 36]
theorem one_reg0 (t : Nat) (W : World) (ht : t < 4294967296) : Calls Tryz.prog 129 #[.int .u32 t, .int .u32 0, .int .u32 8, .slice (some ⟨W.heap.size, 0, none⟩) 8 8] (W.alloc (.cells #[.int .i64 (27), .int .i64 (29), .int .i64 (30), .int .i64 (31), .int .i64 (32), .int .i64 (33), .int .i64 (35), .int .i64 (36)] 3)) fun e w' => e = .returned (.int .i64 (Is.one Is.row_reg0 8 t)) ∧ (W.alloc (.cells #[.int .i64 (27), .int .i64 (29), .int .i64 (30), .int .i64 (31), .int .i64 (32), .int .i64 (33), .int .i64 (35), .int .i64 (36)] 3)) = w' :=
  one_own Is.row_reg0 8 t W.heap.size 8 _ ht (by decide) (by decide) (fun j hj => by
    rw [World.cell?_alloc_at _ _ _ _ rfl]
    have hj' : j = 0 ∨ j = 1 ∨ j = 2 ∨ j = 3 ∨ j = 4 ∨ j = 5 ∨ j = 6 ∨ j = 7 := by
      have : Is.row_reg0.length ≤ 8 := by decide
      omega
    rcases hj' with rfl | rfl | rfl | rfl | rfl | rfl | rfl | rfl <;> first | rfl | (exfalso; revert hj; decide))
def Is.row_reg32 : List Int := [28, -1, -1, -1, -1, 34, -1, -1]
theorem one_reg32 (t : Nat) (W : World) (ht : t < 4294967296) : Calls Tryz.prog 129 #[.int .u32 t, .int .u32 0, .int .u32 8, .slice (some ⟨W.heap.size, 0, none⟩) 8 8] (W.alloc (.cells #[.int .i64 (28), .int .i64 (-1), .int .i64 (-1), .int .i64 (-1), .int .i64 (-1), .int .i64 (34), .int .i64 (-1), .int .i64 (-1)] 3)) fun e w' => e = .returned (.int .i64 (Is.one Is.row_reg32 8 t)) ∧ (W.alloc (.cells #[.int .i64 (28), .int .i64 (-1), .int .i64 (-1), .int .i64 (-1), .int .i64 (-1), .int .i64 (34), .int .i64 (-1), .int .i64 (-1)] 3)) = w' :=
  one_own Is.row_reg32 8 t W.heap.size 8 _ ht (by decide) (by decide) (fun j hj => by
    rw [World.cell?_alloc_at _ _ _ _ rfl]
    have hj' : j = 0 ∨ j = 1 ∨ j = 2 ∨ j = 3 ∨ j = 4 ∨ j = 5 ∨ j = 6 ∨ j = 7 := by
      have : Is.row_reg32.length ≤ 8 := by decide
      omega
    rcases hj' with rfl | rfl | rfl | rfl | rfl | rfl | rfl | rfl <;> first | rfl | (exfalso; revert hj; decide))

def Is.alu (t s : Nat) : Int := if s = 0 then Is.one Is.row_reg0 8 t else if s = 1 then 40 + t else if s = 32 then Is.one Is.row_reg32 8 t else -1
theorem alu_own (t s : Nat) (w : World) (ht : t < 8) (hs : s < 4294967296) : Calls Tryz.prog 131 #[.int .u32 t, .int .u32 s] w fun e w' => e = .returned (.int .i64 (Is.alu t s)) ∧ Below w.heap.size w w' := by
  by_cases h0 : s = 0
  · subst h0
    go_enter Tryz.func131, Tryz.ntmps131
    go_wp2_with (go_at_call 129; refine (one_reg0 t _ (by omega)).mono ?_; rintro e w' ⟨rfl, rfl⟩)
    go_ret
    exact ⟨rfl, (Below.refl _ _).alloc (Nat.le_refl _) _⟩
  by_cases h1 : s = 1
  · subst h1
    go_enter Tryz.func131, Tryz.ntmps131
    go_wp2
    go_ret
    exact ⟨rfl, Below.refl _ _⟩
  by_cases h2 : s = 32
  · subst h2
    go_enter Tryz.func131, Tryz.ntmps131
    go_wp2_with (go_at_call 129; refine (one_reg32 t _ (by omega)).mono ?_; rintro e w' ⟨rfl, rfl⟩)
    go_ret
    exact ⟨rfl, (Below.refl _ _).alloc (Nat.le_refl _) _⟩
  have HO := Lib.hid (show Is.alu t s = -1 by rw [Is.alu, if_neg h0, if_neg h1, if_neg h2])
  have g0 : ((s : Int) == 0) = false := by simp; omega
  have g1 : ((s : Int) == 1) = false := by simp; omega
  have g2 : ((s : Int) == 32) = false := by simp; omega
  clear h0 h1 h2
  go_enter Tryz.func131, Tryz.ntmps131
  go_wp2
  go_ret
  exact ⟨ret_int (by rw [HO.out]), Below.refl _ _⟩
def Is.small (t s : Nat) : Int := if t = 1 ∧ s = 0 then 24 else if t = 5 ∧ s = 0 then 25 else if t = 5 ∧ s = 32 then 26 else Is.one Is.row_imm 8 t
theorem small_own (t s : Nat) (w : World) (ht : t < 8) (hs : s < 4294967296) : Calls Tryz.prog 130 #[.int .u32 t, .int .u32 s] w fun e w' => e = .returned (.int .i64 (Is.small t s)) ∧ Below w.heap.size w w' := by
  by_cases t1 : t = 1
  · subst t1
    by_cases s0 : s = 0
    · subst s0
      go_enter Tryz.func130, Tryz.ntmps130
      go_wp2
      go_ret
      exact ⟨rfl, Below.refl _ _⟩
    · have HO := Lib.hid (show Is.small 1 s = Is.one Is.row_imm 8 1 by simp [Is.small, s0])
      have g0 : ((s : Int) == 0) = false := by simp; omega
      clear s0
      go_enter Tryz.func130, Tryz.ntmps130
      go_wp2_with (go_at_call 129; refine (one_imm 1 _ (by omega)).mono ?_; rintro e w' ⟨rfl, rfl⟩)
      go_ret
      exact ⟨ret_int (by rw [HO.out]), (Below.refl _ _).alloc (Nat.le_refl _) _⟩
  have k1 : ((t : Int) == 1) = false := by simp; omega
  by_cases t5 : t = 5
  · subst t5
    clear k1
    by_cases s0 : s = 0
    · subst s0
      go_enter Tryz.func130, Tryz.ntmps130
      go_wp2
      go_ret
      exact ⟨rfl, Below.refl _ _⟩
    by_cases s2 : s = 32
    · subst s2
      go_enter Tryz.func130, Tryz.ntmps130
      go_wp2
      go_ret
      exact ⟨rfl, Below.refl _ _⟩
    · have HO := Lib.hid (show Is.small 5 s = Is.one Is.row_imm 8 5 by simp [Is.small, s0, s2])
      have g0 : ((s : Int) == 0) = false := by simp; omega
      have g2 : ((s : Int) == 32) = false := by simp; omega
      clear s0 s2
      go_enter Tryz.func130, Tryz.ntmps130
      go_wp2_with (go_at_call 129; refine (one_imm 5 _ (by omega)).mono ?_; rintro e w' ⟨rfl, rfl⟩)
      go_ret
      exact ⟨ret_int (by rw [HO.out]), (Below.refl _ _).alloc (Nat.le_refl _) _⟩
  have k5 : ((t : Int) == 5) = false := by simp; omega
  have HO := Lib.hid (show Is.small t s = Is.one Is.row_imm 8 t by simp [Is.small, t1, t5])
  clear t1 t5
  go_enter Tryz.func130, Tryz.ntmps130
  go_wp2_with (go_at_call 129; refine (one_imm t _ (by omega)).mono ?_; rintro e w' ⟨rfl, rfl⟩)
  go_ret
  exact ⟨ret_int (by rw [HO.out]), (Below.refl _ _).alloc (Nat.le_refl _) _⟩

/-- A word's Op; -1: it has none. -/
def Is.find (x : Nat) : Int :=
  if x % 128 = 55 then 0 else if x % 128 = 23 then 1 else if x % 128 = 111 then 2 else if x % 128 = 103 then Is.one Is.row_jalr 1 (x / 4096 % 8) else if x % 128 = 99 then Is.one Is.row_branch 8 (x / 4096 % 8)
  else if x % 128 = 3 then Is.one Is.row_load 6 (x / 4096 % 8) else if x % 128 = 35 then Is.one Is.row_store 3 (x / 4096 % 8) else if x % 128 = 19 then Is.small (x / 4096 % 8) (x / 33554432) else if x % 128 = 51 then Is.alu (x / 4096 % 8) (x / 33554432)
  else if x % 128 = 15 then (if x % 1048576 = 15 then 37 else -1) else if x % 128 = 115 then (if x = 115 then 38 else if x = 1048691 then 39 else -1) else -1
set_option maxHeartbeats 8000000 in
theorem find_own (x : Nat) (w : World) (hx : x < 4294967296) : Calls Tryz.prog 67 #[.int .u32 x] w fun e w' => e = .returned (.int .i64 (Is.find x)) ∧ Below w.heap.size w w' := by
  have F1 : bits .and .u32 ((x : Int) / 4096) 7 = ((x / 4096 % 8 : Nat) : Int) := by
    have := Bt.field_eq (x / 4096) 3 (by omega) (by omega); simpa using this
  have F2 : bits .and .u32 (x : Int) 127 = ((x % 128 : Nat) : Int) := Bt.field_eq x 7 hx (by omega)
  have F3 : ((x : Int) / 33554432) = ((x / 33554432 : Nat) : Int) := by simp
  have F4 : ((x : Int) * 4096 % 4294967296 / 4096) = ((x % 1048576 : Nat) : Int) := by omega
  have ht : x / 4096 % 8 < 8 := Nat.mod_lt _ (by omega)
  have hs : x / 33554432 < 4294967296 := by omega
  have hc : x % 128 < 128 := Nat.mod_lt _ (by omega)
  unfold Is.find
  generalize x / 4096 % 8 = t at *
  generalize x / 33554432 = s at *
  generalize x % 128 = c at *
  generalize x % 1048576 = y at *
  have ht' : t < 4294967296 := by omega
  have c1 := Lib.hid (fun W => one_jalr t W ht')
  have c2 := Lib.hid (fun W => one_branch t W ht')
  have c3 := Lib.hid (fun W => one_load t W ht')
  have c4 := Lib.hid (fun W => one_store t W ht')
  have c5 := Lib.hid (fun W => small_own t s W ht hs)
  have c6 := Lib.hid (fun W => alu_own t s W ht hs)
  by_cases h55 : c = 55
  · rw [if_pos h55]
    subst h55
    go_enter Tryz.func67, Tryz.ntmps67
    go_wp2
    go_ret
    exact ⟨rfl, Below.refl _ _⟩
  rw [if_neg h55]
  have g55 : ((c : Int) == 55) = false := by simp; omega
  clear h55
  by_cases h23 : c = 23
  · rw [if_pos h23]
    subst h23
    go_enter Tryz.func67, Tryz.ntmps67
    go_wp2
    go_ret
    exact ⟨rfl, Below.refl _ _⟩
  rw [if_neg h23]
  have g23 : ((c : Int) == 23) = false := by simp; omega
  clear h23
  by_cases h111 : c = 111
  · rw [if_pos h111]
    subst h111
    go_enter Tryz.func67, Tryz.ntmps67
    go_wp2
    go_ret
    exact ⟨rfl, Below.refl _ _⟩
  rw [if_neg h111]
  have g111 : ((c : Int) == 111) = false := by simp; omega
  clear h111
  by_cases h103 : c = 103
  · rw [if_pos h103]
    subst h103
    go_enter Tryz.func67, Tryz.ntmps67
    go_wp2_with (go_at_call 129; refine (c1.out _).mono ?_; rintro e w' ⟨rfl, rfl⟩)
    go_ret
    exact ⟨rfl, (Below.refl _ _).alloc (Nat.le_refl _) _⟩
  rw [if_neg h103]
  have g103 : ((c : Int) == 103) = false := by simp; omega
  clear h103
  by_cases h99 : c = 99
  · rw [if_pos h99]
    subst h99
    go_enter Tryz.func67, Tryz.ntmps67
    go_wp2_with (go_at_call 129; refine (c2.out _).mono ?_; rintro e w' ⟨rfl, rfl⟩)
    go_ret
    exact ⟨rfl, (Below.refl _ _).alloc (Nat.le_refl _) _⟩
  rw [if_neg h99]
  have g99 : ((c : Int) == 99) = false := by simp; omega
  clear h99
  by_cases h3 : c = 3
  · rw [if_pos h3]
    subst h3
    go_enter Tryz.func67, Tryz.ntmps67
    go_wp2_with (go_at_call 129; refine (c3.out _).mono ?_; rintro e w' ⟨rfl, rfl⟩)
    go_ret
    exact ⟨rfl, (Below.refl _ _).alloc (Nat.le_refl _) _⟩
  rw [if_neg h3]
  have g3 : ((c : Int) == 3) = false := by simp; omega
  clear h3
  by_cases h35 : c = 35
  · rw [if_pos h35]
    subst h35
    go_enter Tryz.func67, Tryz.ntmps67
    go_wp2_with (go_at_call 129; refine (c4.out _).mono ?_; rintro e w' ⟨rfl, rfl⟩)
    go_ret
    exact ⟨rfl, (Below.refl _ _).alloc (Nat.le_refl _) _⟩
  rw [if_neg h35]
  have g35 : ((c : Int) == 35) = false := by simp; omega
  clear h35
  by_cases h19 : c = 19
  · rw [if_pos h19]
    subst h19
    go_enter Tryz.func67, Tryz.ntmps67
    go_wp2_with (go_at_call 130; refine (c5.out _).mono ?_; rintro e w1 ⟨rfl, hb⟩)
    go_ret
    exact ⟨rfl, hb⟩
  rw [if_neg h19]
  have g19 : ((c : Int) == 19) = false := by simp; omega
  clear h19
  by_cases h51 : c = 51
  · rw [if_pos h51]
    subst h51
    go_enter Tryz.func67, Tryz.ntmps67
    go_wp2_with (go_at_call 131; refine (c6.out _).mono ?_; rintro e w1 ⟨rfl, hb⟩)
    go_ret
    exact ⟨rfl, hb⟩
  rw [if_neg h51]
  have g51 : ((c : Int) == 51) = false := by simp; omega
  clear h51
  by_cases h15 : c = 15
  · rw [if_pos h15]
    subst h15
    by_cases hy : y = 15
    · rw [if_pos hy]
      subst hy
      go_enter Tryz.func67, Tryz.ntmps67
      go_wp2
      go_ret
      exact ⟨rfl, Below.refl _ _⟩
    · rw [if_neg hy]
      have gy : ((y : Int) == 15) = false := by simp; omega
      clear hy
      go_enter Tryz.func67, Tryz.ntmps67
      go_wp2
      go_ret
      exact ⟨rfl, Below.refl _ _⟩
  rw [if_neg h15]
  have g15 : ((c : Int) == 15) = false := by simp; omega
  clear h15
  by_cases h115 : c = 115
  · rw [if_pos h115]
    subst h115
    by_cases hx1 : x = 115
    · rw [if_pos hx1]
      have gx : ((x : Int) == 115) = true := by simp; omega
      clear hx1
      go_enter Tryz.func67, Tryz.ntmps67
      go_wp2
      go_ret
      exact ⟨rfl, Below.refl _ _⟩
    rw [if_neg hx1]
    have gx : ((x : Int) == 115) = false := by simp; omega
    clear hx1
    by_cases hx2 : x = 1048691
    · rw [if_pos hx2]
      have gx2 : ((x : Int) == 1048691) = true := by simp; omega
      clear hx2
      go_enter Tryz.func67, Tryz.ntmps67
      go_wp2
      go_ret
      exact ⟨rfl, Below.refl _ _⟩
    rw [if_neg hx2]
    have gx2 : ((x : Int) == 1048691) = false := by simp; omega
    clear hx2
    go_enter Tryz.func67, Tryz.ntmps67
    go_wp2
    go_ret
    exact ⟨rfl, Below.refl _ _⟩
  rw [if_neg h115]
  have g115 : ((c : Int) == 115) = false := by simp; omega
  clear h115
  go_enter Tryz.func67, Tryz.ntmps67
  go_wp2
  go_ret
  exact ⟨rfl, Below.refl _ _⟩
end Go.Proofs.YtfafdkbnmfpbmaaGreatDoor
