/- Texts joined, what is not reached left out. -/
import Derived.Test.YtpcpaoeajcjoiaaGreatDoorIB
import Derived.Test.YtpcpaoeajcjoiaaGreatDoorQIsRefW
import Derived.Laws.StructEq
/- The walk of the document's Legal. -/
namespace Go.Proofs.YtpcpaoeajcjoiaaGreatDoor
open Go.RowKit
set_option linter.unusedVariables false
set_option linter.unusedSimpArgs false

theorem in_yes (lo n hi : Int) (w : World) (h : lo ≤ n ∧ n ≤ hi) : Calls Tryz.prog 226 #[.int .i64 lo, .int .i64 n, .int .i64 hi] w fun e w' => e = .returned (.bool true) ∧ w = w' := by
  have := in_ref lo n hi w
  rw [show (decide (lo ≤ n) && decide (n ≤ hi)) = true by simp [h]] at this
  exact this
theorem in_no (lo n hi : Int) (w : World) (h : ¬ (lo ≤ n ∧ n ≤ hi)) : Calls Tryz.prog 226 #[.int .i64 lo, .int .i64 n, .int .i64 hi] w fun e w' => e = .returned (.bool false) ∧ w = w' := by
  have := in_ref lo n hi w
  rw [show (decide (lo ≤ n) && decide (n ≤ hi)) = false by simp; omega] at this
  exact this
theorem Is.tmod2 (n : Int) : (n.tmod 2 = 0) ↔ (n % 2 = 0) := by
  rw [← Int.dvd_iff_tmod_eq_zero, Int.dvd_iff_emod_eq_zero]
theorem inst_eql (i j : Is.Inst) (w : World) : (binOp .eql 114 i.v j.v).run Tryz.prog w = .ok (.bool (decide (i = j))) w := by
  have hS : Tryz.prog.underlying 114 = some (.struct (Tryz.prog.fieldsOf 114)) := by kernel_rfl
  have hP : Tryz.prog.stoodInHeld 114 = false := by kernel_rfl
  have u3 := Tryz.underlying3
  rw [run_eql_struct, show (10000 : Nat) = 9999 + 1 from rfl, run_equalIn_agg w 9999 114 _ _ hS hP]
  simp only [Program.fieldsOf, Tryz.underlying114]
  obtain ⟨a, b, c, d, e⟩ := i
  obtain ⟨a', b', c', d', e'⟩ := j
  go_simp
  by_cases h1 : a = a' <;> by_cases h2 : b = b' <;> by_cases h3 : c = c' <;> by_cases h4 : d = d' <;> by_cases h5 : e = e' <;> simp [h1, h2, h3, h4, h5]

set_option maxHeartbeats 4000000 in
theorem rlegal_m1 (op rd rs1 rs2 imm : Int) (w : World) (hs : Is.shape op = -1) : Calls Tryz.prog 153 #[.agg #[.int .i64 op, .int .i64 rd, .int .i64 rs1, .int .i64 rs2, .int .i64 imm]] w fun e w' => e = .returned (.bool (Is.legal ⟨op, rd, rs1, rs2, imm⟩)) ∧ Below w.heap.size w w' := by
  have c0 := Lib.hid (fun w => shape_ref op w)
  have HL := Lib.hid (show Is.legal ⟨op, rd, rs1, rs2, imm⟩ = (decide (0 ≤ Is.shape op) && (Is.regB rd (Is.uses (Is.shape op)).rd && (Is.regB rs1 (Is.uses (Is.shape op)).rs1 && (Is.regB rs2 (Is.uses (Is.shape op)).rs2 &&
    (decide ((Is.uses (Is.shape op)).least ≤ imm) && (decide (imm ≤ (Is.uses (Is.shape op)).most) && (!(Is.uses (Is.shape op)).even || decide (imm % 2 = 0)))))))) from rfl)
  rw [hs] at c0 HL
  clear hs
  have e1 : IntKind.i64.wrap op = op ∨ True := .inr trivial
  clear e1
  go_enter Tryz.func153, Tryz.ntmps153
  by_cases p0 : (0 : Int) ≤ rd ∧ rd ≤ 31
  · have k0 := Lib.hid (fun w => in_yes (0) rd (31) w p0)
    by_cases p1 : (0 : Int) ≤ rs1 ∧ rs1 ≤ 31
    · have k1 := Lib.hid (fun w => in_yes (0) rs1 (31) w p1)
      by_cases p2 : (0 : Int) ≤ rs2 ∧ rs2 ≤ 31
      · have k2 := Lib.hid (fun w => in_yes (0) rs2 (31) w p2)
        have HR := Lib.hid (show Is.legal ⟨op, rd, rs1, rs2, imm⟩ = false by rw [HL.out]; simp [Is.uses, Is.regB] <;> omega)
        clear HL p0 p1 p2
        go_wp2_with (first | (go_at_call 226; first | ((with_reducible refine (k0.out _).mono ?_); rintro e w' ⟨rfl, rfl⟩) | ((with_reducible refine (k1.out _).mono ?_); rintro e w' ⟨rfl, rfl⟩) | ((with_reducible refine (k2.out _).mono ?_); rintro e w' ⟨rfl, rfl⟩)) | (go_at_call 145; refine (c0.out _).mono ?_; rintro e w' ⟨rfl, rfl⟩))
        go_ret
        exact ⟨ret_bool HR.out.symm, (Below.refl _ _).alloc (Nat.le_refl _) _⟩
      · have k2 := Lib.hid (fun w => in_no (0) rs2 (31) w p2)
        have HR := Lib.hid (show Is.legal ⟨op, rd, rs1, rs2, imm⟩ = false by rw [HL.out]; simp [Is.uses, Is.regB] <;> omega)
        clear HL p0 p1 p2
        go_wp2_with (first | (go_at_call 226; first | ((with_reducible refine (k0.out _).mono ?_); rintro e w' ⟨rfl, rfl⟩) | ((with_reducible refine (k1.out _).mono ?_); rintro e w' ⟨rfl, rfl⟩) | ((with_reducible refine (k2.out _).mono ?_); rintro e w' ⟨rfl, rfl⟩)) | (go_at_call 145; refine (c0.out _).mono ?_; rintro e w' ⟨rfl, rfl⟩))
        go_ret
        exact ⟨ret_bool HR.out.symm, (Below.refl _ _).alloc (Nat.le_refl _) _⟩
    · have k1 := Lib.hid (fun w => in_no (0) rs1 (31) w p1)
      have HR := Lib.hid (show Is.legal ⟨op, rd, rs1, rs2, imm⟩ = false by rw [HL.out]; simp [Is.uses, Is.regB] <;> omega)
      clear HL p0 p1
      go_wp2_with (first | (go_at_call 226; first | ((with_reducible refine (k0.out _).mono ?_); rintro e w' ⟨rfl, rfl⟩) | ((with_reducible refine (k1.out _).mono ?_); rintro e w' ⟨rfl, rfl⟩)) | (go_at_call 145; refine (c0.out _).mono ?_; rintro e w' ⟨rfl, rfl⟩))
      go_ret
      exact ⟨ret_bool HR.out.symm, (Below.refl _ _).alloc (Nat.le_refl _) _⟩
  · have k0 := Lib.hid (fun w => in_no (0) rd (31) w p0)
    have HR := Lib.hid (show Is.legal ⟨op, rd, rs1, rs2, imm⟩ = false by rw [HL.out]; simp [Is.uses, Is.regB] <;> omega)
    clear HL p0
    go_wp2_with (first | (go_at_call 226; first | ((with_reducible refine (k0.out _).mono ?_); rintro e w' ⟨rfl, rfl⟩)) | (go_at_call 145; refine (c0.out _).mono ?_; rintro e w' ⟨rfl, rfl⟩))
    go_ret
    exact ⟨ret_bool HR.out.symm, (Below.refl _ _).alloc (Nat.le_refl _) _⟩
set_option maxHeartbeats 4000000 in
theorem rlegal_0 (op rd rs1 rs2 imm : Int) (w : World) (hs : Is.shape op = 0) : Calls Tryz.prog 153 #[.agg #[.int .i64 op, .int .i64 rd, .int .i64 rs1, .int .i64 rs2, .int .i64 imm]] w fun e w' => e = .returned (.bool (Is.legal ⟨op, rd, rs1, rs2, imm⟩)) ∧ Below w.heap.size w w' := by
  have c0 := Lib.hid (fun w => shape_ref op w)
  have HL := Lib.hid (show Is.legal ⟨op, rd, rs1, rs2, imm⟩ = (decide (0 ≤ Is.shape op) && (Is.regB rd (Is.uses (Is.shape op)).rd && (Is.regB rs1 (Is.uses (Is.shape op)).rs1 && (Is.regB rs2 (Is.uses (Is.shape op)).rs2 &&
    (decide ((Is.uses (Is.shape op)).least ≤ imm) && (decide (imm ≤ (Is.uses (Is.shape op)).most) && (!(Is.uses (Is.shape op)).even || decide (imm % 2 = 0)))))))) from rfl)
  rw [hs] at c0 HL
  clear hs
  have e1 : IntKind.i64.wrap op = op ∨ True := .inr trivial
  clear e1
  go_enter Tryz.func153, Tryz.ntmps153
  by_cases p0 : (0 : Int) ≤ rd ∧ rd ≤ 31
  · have k0 := Lib.hid (fun w => in_yes (0) rd (31) w p0)
    by_cases p1 : (0 : Int) ≤ rs1 ∧ rs1 ≤ 31
    · have k1 := Lib.hid (fun w => in_yes (0) rs1 (31) w p1)
      by_cases p2 : (0 : Int) ≤ rs2 ∧ rs2 ≤ 31
      · have k2 := Lib.hid (fun w => in_yes (0) rs2 (31) w p2)
        by_cases p3 : rs1 = 0
        · have g3 : (rs1 == 0) = true := by simp [p3]
          by_cases p4 : rs2 = 0
          · have g4 : (rs2 == 0) = true := by simp [p4]
            by_cases p5 : (0 : Int) ≤ imm ∧ imm ≤ 1048575
            · have k3 := Lib.hid (fun w => in_yes (0) imm (1048575) w p5)
              have HR := Lib.hid (show Is.legal ⟨op, rd, rs1, rs2, imm⟩ = true by rw [HL.out]; simp [Is.uses, Is.regB] <;> omega)
              clear HL p0 p1 p2 p3 p4 p5
              go_wp2_with (first | (go_at_call 226; first | ((with_reducible refine (k0.out _).mono ?_); rintro e w' ⟨rfl, rfl⟩) | ((with_reducible refine (k1.out _).mono ?_); rintro e w' ⟨rfl, rfl⟩) | ((with_reducible refine (k2.out _).mono ?_); rintro e w' ⟨rfl, rfl⟩) | ((with_reducible refine (k3.out _).mono ?_); rintro e w' ⟨rfl, rfl⟩)) | (go_at_call 145; refine (c0.out _).mono ?_; rintro e w' ⟨rfl, rfl⟩))
              go_ret
              exact ⟨ret_bool HR.out.symm, (Below.refl _ _).alloc (Nat.le_refl _) _⟩
            · have k3 := Lib.hid (fun w => in_no (0) imm (1048575) w p5)
              have HR := Lib.hid (show Is.legal ⟨op, rd, rs1, rs2, imm⟩ = false by rw [HL.out]; simp [Is.uses, Is.regB] <;> omega)
              clear HL p0 p1 p2 p3 p4 p5
              go_wp2_with (first | (go_at_call 226; first | ((with_reducible refine (k0.out _).mono ?_); rintro e w' ⟨rfl, rfl⟩) | ((with_reducible refine (k1.out _).mono ?_); rintro e w' ⟨rfl, rfl⟩) | ((with_reducible refine (k2.out _).mono ?_); rintro e w' ⟨rfl, rfl⟩) | ((with_reducible refine (k3.out _).mono ?_); rintro e w' ⟨rfl, rfl⟩)) | (go_at_call 145; refine (c0.out _).mono ?_; rintro e w' ⟨rfl, rfl⟩))
              go_ret
              exact ⟨ret_bool HR.out.symm, (Below.refl _ _).alloc (Nat.le_refl _) _⟩
          · have g4 : (rs2 == 0) = false := by simp [p4]
            have HR := Lib.hid (show Is.legal ⟨op, rd, rs1, rs2, imm⟩ = false by rw [HL.out]; simp [Is.uses, Is.regB] <;> omega)
            clear HL p0 p1 p2 p3 p4
            go_wp2_with (first | (go_at_call 226; first | ((with_reducible refine (k0.out _).mono ?_); rintro e w' ⟨rfl, rfl⟩) | ((with_reducible refine (k1.out _).mono ?_); rintro e w' ⟨rfl, rfl⟩) | ((with_reducible refine (k2.out _).mono ?_); rintro e w' ⟨rfl, rfl⟩)) | (go_at_call 145; refine (c0.out _).mono ?_; rintro e w' ⟨rfl, rfl⟩))
            go_ret
            exact ⟨ret_bool HR.out.symm, (Below.refl _ _).alloc (Nat.le_refl _) _⟩
        · have g3 : (rs1 == 0) = false := by simp [p3]
          have HR := Lib.hid (show Is.legal ⟨op, rd, rs1, rs2, imm⟩ = false by rw [HL.out]; simp [Is.uses, Is.regB] <;> omega)
          clear HL p0 p1 p2 p3
          go_wp2_with (first | (go_at_call 226; first | ((with_reducible refine (k0.out _).mono ?_); rintro e w' ⟨rfl, rfl⟩) | ((with_reducible refine (k1.out _).mono ?_); rintro e w' ⟨rfl, rfl⟩) | ((with_reducible refine (k2.out _).mono ?_); rintro e w' ⟨rfl, rfl⟩)) | (go_at_call 145; refine (c0.out _).mono ?_; rintro e w' ⟨rfl, rfl⟩))
          go_ret
          exact ⟨ret_bool HR.out.symm, (Below.refl _ _).alloc (Nat.le_refl _) _⟩
      · have k2 := Lib.hid (fun w => in_no (0) rs2 (31) w p2)
        have HR := Lib.hid (show Is.legal ⟨op, rd, rs1, rs2, imm⟩ = false by rw [HL.out]; simp [Is.uses, Is.regB] <;> omega)
        clear HL p0 p1 p2
        go_wp2_with (first | (go_at_call 226; first | ((with_reducible refine (k0.out _).mono ?_); rintro e w' ⟨rfl, rfl⟩) | ((with_reducible refine (k1.out _).mono ?_); rintro e w' ⟨rfl, rfl⟩) | ((with_reducible refine (k2.out _).mono ?_); rintro e w' ⟨rfl, rfl⟩)) | (go_at_call 145; refine (c0.out _).mono ?_; rintro e w' ⟨rfl, rfl⟩))
        go_ret
        exact ⟨ret_bool HR.out.symm, (Below.refl _ _).alloc (Nat.le_refl _) _⟩
    · have k1 := Lib.hid (fun w => in_no (0) rs1 (31) w p1)
      have HR := Lib.hid (show Is.legal ⟨op, rd, rs1, rs2, imm⟩ = false by rw [HL.out]; simp [Is.uses, Is.regB] <;> omega)
      clear HL p0 p1
      go_wp2_with (first | (go_at_call 226; first | ((with_reducible refine (k0.out _).mono ?_); rintro e w' ⟨rfl, rfl⟩) | ((with_reducible refine (k1.out _).mono ?_); rintro e w' ⟨rfl, rfl⟩)) | (go_at_call 145; refine (c0.out _).mono ?_; rintro e w' ⟨rfl, rfl⟩))
      go_ret
      exact ⟨ret_bool HR.out.symm, (Below.refl _ _).alloc (Nat.le_refl _) _⟩
  · have k0 := Lib.hid (fun w => in_no (0) rd (31) w p0)
    have HR := Lib.hid (show Is.legal ⟨op, rd, rs1, rs2, imm⟩ = false by rw [HL.out]; simp [Is.uses, Is.regB] <;> omega)
    clear HL p0
    go_wp2_with (first | (go_at_call 226; first | ((with_reducible refine (k0.out _).mono ?_); rintro e w' ⟨rfl, rfl⟩)) | (go_at_call 145; refine (c0.out _).mono ?_; rintro e w' ⟨rfl, rfl⟩))
    go_ret
    exact ⟨ret_bool HR.out.symm, (Below.refl _ _).alloc (Nat.le_refl _) _⟩
set_option maxHeartbeats 4000000 in
theorem rlegal_1 (op rd rs1 rs2 imm : Int) (w : World) (hs : Is.shape op = 1) : Calls Tryz.prog 153 #[.agg #[.int .i64 op, .int .i64 rd, .int .i64 rs1, .int .i64 rs2, .int .i64 imm]] w fun e w' => e = .returned (.bool (Is.legal ⟨op, rd, rs1, rs2, imm⟩)) ∧ Below w.heap.size w w' := by
  have c0 := Lib.hid (fun w => shape_ref op w)
  have HL := Lib.hid (show Is.legal ⟨op, rd, rs1, rs2, imm⟩ = (decide (0 ≤ Is.shape op) && (Is.regB rd (Is.uses (Is.shape op)).rd && (Is.regB rs1 (Is.uses (Is.shape op)).rs1 && (Is.regB rs2 (Is.uses (Is.shape op)).rs2 &&
    (decide ((Is.uses (Is.shape op)).least ≤ imm) && (decide (imm ≤ (Is.uses (Is.shape op)).most) && (!(Is.uses (Is.shape op)).even || decide (imm % 2 = 0)))))))) from rfl)
  rw [hs] at c0 HL
  clear hs
  have e1 : IntKind.i64.wrap op = op ∨ True := .inr trivial
  clear e1
  go_enter Tryz.func153, Tryz.ntmps153
  by_cases p0 : (0 : Int) ≤ rd ∧ rd ≤ 31
  · have k0 := Lib.hid (fun w => in_yes (0) rd (31) w p0)
    by_cases p1 : (0 : Int) ≤ rs1 ∧ rs1 ≤ 31
    · have k1 := Lib.hid (fun w => in_yes (0) rs1 (31) w p1)
      by_cases p2 : (0 : Int) ≤ rs2 ∧ rs2 ≤ 31
      · have k2 := Lib.hid (fun w => in_yes (0) rs2 (31) w p2)
        by_cases p3 : rs1 = 0
        · have g3 : (rs1 == 0) = true := by simp [p3]
          by_cases p4 : rs2 = 0
          · have g4 : (rs2 == 0) = true := by simp [p4]
            by_cases p5 : (-1048576 : Int) ≤ imm ∧ imm ≤ 1048574
            · have k3 := Lib.hid (fun w => in_yes (-1048576) imm (1048574) w p5)
              by_cases p6 : imm % 2 = 0
              · have g6 : (imm.tmod 2 == 0) = true := by rw [beq_iff_eq]; exact (Is.tmod2 imm).2 p6
                have HR := Lib.hid (show Is.legal ⟨op, rd, rs1, rs2, imm⟩ = true by rw [HL.out]; simp [Is.uses, Is.regB] <;> omega)
                clear HL p0 p1 p2 p3 p4 p5 p6
                go_wp2_with (first | (go_at_call 226; first | ((with_reducible refine (k0.out _).mono ?_); rintro e w' ⟨rfl, rfl⟩) | ((with_reducible refine (k1.out _).mono ?_); rintro e w' ⟨rfl, rfl⟩) | ((with_reducible refine (k2.out _).mono ?_); rintro e w' ⟨rfl, rfl⟩) | ((with_reducible refine (k3.out _).mono ?_); rintro e w' ⟨rfl, rfl⟩)) | (go_at_call 145; refine (c0.out _).mono ?_; rintro e w' ⟨rfl, rfl⟩))
                go_ret
                exact ⟨ret_bool HR.out.symm, (Below.refl _ _).alloc (Nat.le_refl _) _⟩
              · have g6 : (imm.tmod 2 == 0) = false := by rw [beq_eq_false_iff_ne]; exact fun k => p6 ((Is.tmod2 imm).1 k)
                have HR := Lib.hid (show Is.legal ⟨op, rd, rs1, rs2, imm⟩ = false by rw [HL.out]; simp [Is.uses, Is.regB] <;> omega)
                clear HL p0 p1 p2 p3 p4 p5 p6
                go_wp2_with (first | (go_at_call 226; first | ((with_reducible refine (k0.out _).mono ?_); rintro e w' ⟨rfl, rfl⟩) | ((with_reducible refine (k1.out _).mono ?_); rintro e w' ⟨rfl, rfl⟩) | ((with_reducible refine (k2.out _).mono ?_); rintro e w' ⟨rfl, rfl⟩) | ((with_reducible refine (k3.out _).mono ?_); rintro e w' ⟨rfl, rfl⟩)) | (go_at_call 145; refine (c0.out _).mono ?_; rintro e w' ⟨rfl, rfl⟩))
                go_ret
                exact ⟨ret_bool HR.out.symm, (Below.refl _ _).alloc (Nat.le_refl _) _⟩
            · have k3 := Lib.hid (fun w => in_no (-1048576) imm (1048574) w p5)
              have HR := Lib.hid (show Is.legal ⟨op, rd, rs1, rs2, imm⟩ = false by rw [HL.out]; simp [Is.uses, Is.regB] <;> omega)
              clear HL p0 p1 p2 p3 p4 p5
              go_wp2_with (first | (go_at_call 226; first | ((with_reducible refine (k0.out _).mono ?_); rintro e w' ⟨rfl, rfl⟩) | ((with_reducible refine (k1.out _).mono ?_); rintro e w' ⟨rfl, rfl⟩) | ((with_reducible refine (k2.out _).mono ?_); rintro e w' ⟨rfl, rfl⟩) | ((with_reducible refine (k3.out _).mono ?_); rintro e w' ⟨rfl, rfl⟩)) | (go_at_call 145; refine (c0.out _).mono ?_; rintro e w' ⟨rfl, rfl⟩))
              go_ret
              exact ⟨ret_bool HR.out.symm, (Below.refl _ _).alloc (Nat.le_refl _) _⟩
          · have g4 : (rs2 == 0) = false := by simp [p4]
            have HR := Lib.hid (show Is.legal ⟨op, rd, rs1, rs2, imm⟩ = false by rw [HL.out]; simp [Is.uses, Is.regB] <;> omega)
            clear HL p0 p1 p2 p3 p4
            go_wp2_with (first | (go_at_call 226; first | ((with_reducible refine (k0.out _).mono ?_); rintro e w' ⟨rfl, rfl⟩) | ((with_reducible refine (k1.out _).mono ?_); rintro e w' ⟨rfl, rfl⟩) | ((with_reducible refine (k2.out _).mono ?_); rintro e w' ⟨rfl, rfl⟩)) | (go_at_call 145; refine (c0.out _).mono ?_; rintro e w' ⟨rfl, rfl⟩))
            go_ret
            exact ⟨ret_bool HR.out.symm, (Below.refl _ _).alloc (Nat.le_refl _) _⟩
        · have g3 : (rs1 == 0) = false := by simp [p3]
          have HR := Lib.hid (show Is.legal ⟨op, rd, rs1, rs2, imm⟩ = false by rw [HL.out]; simp [Is.uses, Is.regB] <;> omega)
          clear HL p0 p1 p2 p3
          go_wp2_with (first | (go_at_call 226; first | ((with_reducible refine (k0.out _).mono ?_); rintro e w' ⟨rfl, rfl⟩) | ((with_reducible refine (k1.out _).mono ?_); rintro e w' ⟨rfl, rfl⟩) | ((with_reducible refine (k2.out _).mono ?_); rintro e w' ⟨rfl, rfl⟩)) | (go_at_call 145; refine (c0.out _).mono ?_; rintro e w' ⟨rfl, rfl⟩))
          go_ret
          exact ⟨ret_bool HR.out.symm, (Below.refl _ _).alloc (Nat.le_refl _) _⟩
      · have k2 := Lib.hid (fun w => in_no (0) rs2 (31) w p2)
        have HR := Lib.hid (show Is.legal ⟨op, rd, rs1, rs2, imm⟩ = false by rw [HL.out]; simp [Is.uses, Is.regB] <;> omega)
        clear HL p0 p1 p2
        go_wp2_with (first | (go_at_call 226; first | ((with_reducible refine (k0.out _).mono ?_); rintro e w' ⟨rfl, rfl⟩) | ((with_reducible refine (k1.out _).mono ?_); rintro e w' ⟨rfl, rfl⟩) | ((with_reducible refine (k2.out _).mono ?_); rintro e w' ⟨rfl, rfl⟩)) | (go_at_call 145; refine (c0.out _).mono ?_; rintro e w' ⟨rfl, rfl⟩))
        go_ret
        exact ⟨ret_bool HR.out.symm, (Below.refl _ _).alloc (Nat.le_refl _) _⟩
    · have k1 := Lib.hid (fun w => in_no (0) rs1 (31) w p1)
      have HR := Lib.hid (show Is.legal ⟨op, rd, rs1, rs2, imm⟩ = false by rw [HL.out]; simp [Is.uses, Is.regB] <;> omega)
      clear HL p0 p1
      go_wp2_with (first | (go_at_call 226; first | ((with_reducible refine (k0.out _).mono ?_); rintro e w' ⟨rfl, rfl⟩) | ((with_reducible refine (k1.out _).mono ?_); rintro e w' ⟨rfl, rfl⟩)) | (go_at_call 145; refine (c0.out _).mono ?_; rintro e w' ⟨rfl, rfl⟩))
      go_ret
      exact ⟨ret_bool HR.out.symm, (Below.refl _ _).alloc (Nat.le_refl _) _⟩
  · have k0 := Lib.hid (fun w => in_no (0) rd (31) w p0)
    have HR := Lib.hid (show Is.legal ⟨op, rd, rs1, rs2, imm⟩ = false by rw [HL.out]; simp [Is.uses, Is.regB] <;> omega)
    clear HL p0
    go_wp2_with (first | (go_at_call 226; first | ((with_reducible refine (k0.out _).mono ?_); rintro e w' ⟨rfl, rfl⟩)) | (go_at_call 145; refine (c0.out _).mono ?_; rintro e w' ⟨rfl, rfl⟩))
    go_ret
    exact ⟨ret_bool HR.out.symm, (Below.refl _ _).alloc (Nat.le_refl _) _⟩
set_option maxHeartbeats 4000000 in
theorem rlegal_2 (op rd rs1 rs2 imm : Int) (w : World) (hs : Is.shape op = 2) : Calls Tryz.prog 153 #[.agg #[.int .i64 op, .int .i64 rd, .int .i64 rs1, .int .i64 rs2, .int .i64 imm]] w fun e w' => e = .returned (.bool (Is.legal ⟨op, rd, rs1, rs2, imm⟩)) ∧ Below w.heap.size w w' := by
  have c0 := Lib.hid (fun w => shape_ref op w)
  have HL := Lib.hid (show Is.legal ⟨op, rd, rs1, rs2, imm⟩ = (decide (0 ≤ Is.shape op) && (Is.regB rd (Is.uses (Is.shape op)).rd && (Is.regB rs1 (Is.uses (Is.shape op)).rs1 && (Is.regB rs2 (Is.uses (Is.shape op)).rs2 &&
    (decide ((Is.uses (Is.shape op)).least ≤ imm) && (decide (imm ≤ (Is.uses (Is.shape op)).most) && (!(Is.uses (Is.shape op)).even || decide (imm % 2 = 0)))))))) from rfl)
  rw [hs] at c0 HL
  clear hs
  have e1 : IntKind.i64.wrap op = op ∨ True := .inr trivial
  clear e1
  go_enter Tryz.func153, Tryz.ntmps153
  by_cases p0 : (0 : Int) ≤ rd ∧ rd ≤ 31
  · have k0 := Lib.hid (fun w => in_yes (0) rd (31) w p0)
    by_cases p1 : (0 : Int) ≤ rs1 ∧ rs1 ≤ 31
    · have k1 := Lib.hid (fun w => in_yes (0) rs1 (31) w p1)
      by_cases p2 : (0 : Int) ≤ rs2 ∧ rs2 ≤ 31
      · have k2 := Lib.hid (fun w => in_yes (0) rs2 (31) w p2)
        by_cases p3 : rs2 = 0
        · have g3 : (rs2 == 0) = true := by simp [p3]
          by_cases p4 : (-2048 : Int) ≤ imm ∧ imm ≤ 2047
          · have k3 := Lib.hid (fun w => in_yes (-2048) imm (2047) w p4)
            have HR := Lib.hid (show Is.legal ⟨op, rd, rs1, rs2, imm⟩ = true by rw [HL.out]; simp [Is.uses, Is.regB] <;> omega)
            clear HL p0 p1 p2 p3 p4
            go_wp2_with (first | (go_at_call 226; first | ((with_reducible refine (k0.out _).mono ?_); rintro e w' ⟨rfl, rfl⟩) | ((with_reducible refine (k1.out _).mono ?_); rintro e w' ⟨rfl, rfl⟩) | ((with_reducible refine (k2.out _).mono ?_); rintro e w' ⟨rfl, rfl⟩) | ((with_reducible refine (k3.out _).mono ?_); rintro e w' ⟨rfl, rfl⟩)) | (go_at_call 145; refine (c0.out _).mono ?_; rintro e w' ⟨rfl, rfl⟩))
            go_ret
            exact ⟨ret_bool HR.out.symm, (Below.refl _ _).alloc (Nat.le_refl _) _⟩
          · have k3 := Lib.hid (fun w => in_no (-2048) imm (2047) w p4)
            have HR := Lib.hid (show Is.legal ⟨op, rd, rs1, rs2, imm⟩ = false by rw [HL.out]; simp [Is.uses, Is.regB] <;> omega)
            clear HL p0 p1 p2 p3 p4
            go_wp2_with (first | (go_at_call 226; first | ((with_reducible refine (k0.out _).mono ?_); rintro e w' ⟨rfl, rfl⟩) | ((with_reducible refine (k1.out _).mono ?_); rintro e w' ⟨rfl, rfl⟩) | ((with_reducible refine (k2.out _).mono ?_); rintro e w' ⟨rfl, rfl⟩) | ((with_reducible refine (k3.out _).mono ?_); rintro e w' ⟨rfl, rfl⟩)) | (go_at_call 145; refine (c0.out _).mono ?_; rintro e w' ⟨rfl, rfl⟩))
            go_ret
            exact ⟨ret_bool HR.out.symm, (Below.refl _ _).alloc (Nat.le_refl _) _⟩
        · have g3 : (rs2 == 0) = false := by simp [p3]
          have HR := Lib.hid (show Is.legal ⟨op, rd, rs1, rs2, imm⟩ = false by rw [HL.out]; simp [Is.uses, Is.regB] <;> omega)
          clear HL p0 p1 p2 p3
          go_wp2_with (first | (go_at_call 226; first | ((with_reducible refine (k0.out _).mono ?_); rintro e w' ⟨rfl, rfl⟩) | ((with_reducible refine (k1.out _).mono ?_); rintro e w' ⟨rfl, rfl⟩) | ((with_reducible refine (k2.out _).mono ?_); rintro e w' ⟨rfl, rfl⟩)) | (go_at_call 145; refine (c0.out _).mono ?_; rintro e w' ⟨rfl, rfl⟩))
          go_ret
          exact ⟨ret_bool HR.out.symm, (Below.refl _ _).alloc (Nat.le_refl _) _⟩
      · have k2 := Lib.hid (fun w => in_no (0) rs2 (31) w p2)
        have HR := Lib.hid (show Is.legal ⟨op, rd, rs1, rs2, imm⟩ = false by rw [HL.out]; simp [Is.uses, Is.regB] <;> omega)
        clear HL p0 p1 p2
        go_wp2_with (first | (go_at_call 226; first | ((with_reducible refine (k0.out _).mono ?_); rintro e w' ⟨rfl, rfl⟩) | ((with_reducible refine (k1.out _).mono ?_); rintro e w' ⟨rfl, rfl⟩) | ((with_reducible refine (k2.out _).mono ?_); rintro e w' ⟨rfl, rfl⟩)) | (go_at_call 145; refine (c0.out _).mono ?_; rintro e w' ⟨rfl, rfl⟩))
        go_ret
        exact ⟨ret_bool HR.out.symm, (Below.refl _ _).alloc (Nat.le_refl _) _⟩
    · have k1 := Lib.hid (fun w => in_no (0) rs1 (31) w p1)
      have HR := Lib.hid (show Is.legal ⟨op, rd, rs1, rs2, imm⟩ = false by rw [HL.out]; simp [Is.uses, Is.regB] <;> omega)
      clear HL p0 p1
      go_wp2_with (first | (go_at_call 226; first | ((with_reducible refine (k0.out _).mono ?_); rintro e w' ⟨rfl, rfl⟩) | ((with_reducible refine (k1.out _).mono ?_); rintro e w' ⟨rfl, rfl⟩)) | (go_at_call 145; refine (c0.out _).mono ?_; rintro e w' ⟨rfl, rfl⟩))
      go_ret
      exact ⟨ret_bool HR.out.symm, (Below.refl _ _).alloc (Nat.le_refl _) _⟩
  · have k0 := Lib.hid (fun w => in_no (0) rd (31) w p0)
    have HR := Lib.hid (show Is.legal ⟨op, rd, rs1, rs2, imm⟩ = false by rw [HL.out]; simp [Is.uses, Is.regB] <;> omega)
    clear HL p0
    go_wp2_with (first | (go_at_call 226; first | ((with_reducible refine (k0.out _).mono ?_); rintro e w' ⟨rfl, rfl⟩)) | (go_at_call 145; refine (c0.out _).mono ?_; rintro e w' ⟨rfl, rfl⟩))
    go_ret
    exact ⟨ret_bool HR.out.symm, (Below.refl _ _).alloc (Nat.le_refl _) _⟩
set_option maxHeartbeats 4000000 in
theorem rlegal_3 (op rd rs1 rs2 imm : Int) (w : World) (hs : Is.shape op = 3) : Calls Tryz.prog 153 #[.agg #[.int .i64 op, .int .i64 rd, .int .i64 rs1, .int .i64 rs2, .int .i64 imm]] w fun e w' => e = .returned (.bool (Is.legal ⟨op, rd, rs1, rs2, imm⟩)) ∧ Below w.heap.size w w' := by
  have c0 := Lib.hid (fun w => shape_ref op w)
  have HL := Lib.hid (show Is.legal ⟨op, rd, rs1, rs2, imm⟩ = (decide (0 ≤ Is.shape op) && (Is.regB rd (Is.uses (Is.shape op)).rd && (Is.regB rs1 (Is.uses (Is.shape op)).rs1 && (Is.regB rs2 (Is.uses (Is.shape op)).rs2 &&
    (decide ((Is.uses (Is.shape op)).least ≤ imm) && (decide (imm ≤ (Is.uses (Is.shape op)).most) && (!(Is.uses (Is.shape op)).even || decide (imm % 2 = 0)))))))) from rfl)
  rw [hs] at c0 HL
  clear hs
  have e1 : IntKind.i64.wrap op = op ∨ True := .inr trivial
  clear e1
  go_enter Tryz.func153, Tryz.ntmps153
  by_cases p0 : (0 : Int) ≤ rd ∧ rd ≤ 31
  · have k0 := Lib.hid (fun w => in_yes (0) rd (31) w p0)
    by_cases p1 : (0 : Int) ≤ rs1 ∧ rs1 ≤ 31
    · have k1 := Lib.hid (fun w => in_yes (0) rs1 (31) w p1)
      by_cases p2 : (0 : Int) ≤ rs2 ∧ rs2 ≤ 31
      · have k2 := Lib.hid (fun w => in_yes (0) rs2 (31) w p2)
        by_cases p3 : rd = 0
        · have g3 : (rd == 0) = true := by simp [p3]
          by_cases p4 : (-4096 : Int) ≤ imm ∧ imm ≤ 4094
          · have k3 := Lib.hid (fun w => in_yes (-4096) imm (4094) w p4)
            by_cases p5 : imm % 2 = 0
            · have g5 : (imm.tmod 2 == 0) = true := by rw [beq_iff_eq]; exact (Is.tmod2 imm).2 p5
              have HR := Lib.hid (show Is.legal ⟨op, rd, rs1, rs2, imm⟩ = true by rw [HL.out]; simp [Is.uses, Is.regB] <;> omega)
              clear HL p0 p1 p2 p3 p4 p5
              go_wp2_with (first | (go_at_call 226; first | ((with_reducible refine (k0.out _).mono ?_); rintro e w' ⟨rfl, rfl⟩) | ((with_reducible refine (k1.out _).mono ?_); rintro e w' ⟨rfl, rfl⟩) | ((with_reducible refine (k2.out _).mono ?_); rintro e w' ⟨rfl, rfl⟩) | ((with_reducible refine (k3.out _).mono ?_); rintro e w' ⟨rfl, rfl⟩)) | (go_at_call 145; refine (c0.out _).mono ?_; rintro e w' ⟨rfl, rfl⟩))
              go_ret
              exact ⟨ret_bool HR.out.symm, (Below.refl _ _).alloc (Nat.le_refl _) _⟩
            · have g5 : (imm.tmod 2 == 0) = false := by rw [beq_eq_false_iff_ne]; exact fun k => p5 ((Is.tmod2 imm).1 k)
              have HR := Lib.hid (show Is.legal ⟨op, rd, rs1, rs2, imm⟩ = false by rw [HL.out]; simp [Is.uses, Is.regB] <;> omega)
              clear HL p0 p1 p2 p3 p4 p5
              go_wp2_with (first | (go_at_call 226; first | ((with_reducible refine (k0.out _).mono ?_); rintro e w' ⟨rfl, rfl⟩) | ((with_reducible refine (k1.out _).mono ?_); rintro e w' ⟨rfl, rfl⟩) | ((with_reducible refine (k2.out _).mono ?_); rintro e w' ⟨rfl, rfl⟩) | ((with_reducible refine (k3.out _).mono ?_); rintro e w' ⟨rfl, rfl⟩)) | (go_at_call 145; refine (c0.out _).mono ?_; rintro e w' ⟨rfl, rfl⟩))
              go_ret
              exact ⟨ret_bool HR.out.symm, (Below.refl _ _).alloc (Nat.le_refl _) _⟩
          · have k3 := Lib.hid (fun w => in_no (-4096) imm (4094) w p4)
            have HR := Lib.hid (show Is.legal ⟨op, rd, rs1, rs2, imm⟩ = false by rw [HL.out]; simp [Is.uses, Is.regB] <;> omega)
            clear HL p0 p1 p2 p3 p4
            go_wp2_with (first | (go_at_call 226; first | ((with_reducible refine (k0.out _).mono ?_); rintro e w' ⟨rfl, rfl⟩) | ((with_reducible refine (k1.out _).mono ?_); rintro e w' ⟨rfl, rfl⟩) | ((with_reducible refine (k2.out _).mono ?_); rintro e w' ⟨rfl, rfl⟩) | ((with_reducible refine (k3.out _).mono ?_); rintro e w' ⟨rfl, rfl⟩)) | (go_at_call 145; refine (c0.out _).mono ?_; rintro e w' ⟨rfl, rfl⟩))
            go_ret
            exact ⟨ret_bool HR.out.symm, (Below.refl _ _).alloc (Nat.le_refl _) _⟩
        · have g3 : (rd == 0) = false := by simp [p3]
          have HR := Lib.hid (show Is.legal ⟨op, rd, rs1, rs2, imm⟩ = false by rw [HL.out]; simp [Is.uses, Is.regB] <;> omega)
          clear HL p0 p1 p2 p3
          go_wp2_with (first | (go_at_call 226; first | ((with_reducible refine (k0.out _).mono ?_); rintro e w' ⟨rfl, rfl⟩) | ((with_reducible refine (k1.out _).mono ?_); rintro e w' ⟨rfl, rfl⟩) | ((with_reducible refine (k2.out _).mono ?_); rintro e w' ⟨rfl, rfl⟩)) | (go_at_call 145; refine (c0.out _).mono ?_; rintro e w' ⟨rfl, rfl⟩))
          go_ret
          exact ⟨ret_bool HR.out.symm, (Below.refl _ _).alloc (Nat.le_refl _) _⟩
      · have k2 := Lib.hid (fun w => in_no (0) rs2 (31) w p2)
        have HR := Lib.hid (show Is.legal ⟨op, rd, rs1, rs2, imm⟩ = false by rw [HL.out]; simp [Is.uses, Is.regB] <;> omega)
        clear HL p0 p1 p2
        go_wp2_with (first | (go_at_call 226; first | ((with_reducible refine (k0.out _).mono ?_); rintro e w' ⟨rfl, rfl⟩) | ((with_reducible refine (k1.out _).mono ?_); rintro e w' ⟨rfl, rfl⟩) | ((with_reducible refine (k2.out _).mono ?_); rintro e w' ⟨rfl, rfl⟩)) | (go_at_call 145; refine (c0.out _).mono ?_; rintro e w' ⟨rfl, rfl⟩))
        go_ret
        exact ⟨ret_bool HR.out.symm, (Below.refl _ _).alloc (Nat.le_refl _) _⟩
    · have k1 := Lib.hid (fun w => in_no (0) rs1 (31) w p1)
      have HR := Lib.hid (show Is.legal ⟨op, rd, rs1, rs2, imm⟩ = false by rw [HL.out]; simp [Is.uses, Is.regB] <;> omega)
      clear HL p0 p1
      go_wp2_with (first | (go_at_call 226; first | ((with_reducible refine (k0.out _).mono ?_); rintro e w' ⟨rfl, rfl⟩) | ((with_reducible refine (k1.out _).mono ?_); rintro e w' ⟨rfl, rfl⟩)) | (go_at_call 145; refine (c0.out _).mono ?_; rintro e w' ⟨rfl, rfl⟩))
      go_ret
      exact ⟨ret_bool HR.out.symm, (Below.refl _ _).alloc (Nat.le_refl _) _⟩
  · have k0 := Lib.hid (fun w => in_no (0) rd (31) w p0)
    have HR := Lib.hid (show Is.legal ⟨op, rd, rs1, rs2, imm⟩ = false by rw [HL.out]; simp [Is.uses, Is.regB] <;> omega)
    clear HL p0
    go_wp2_with (first | (go_at_call 226; first | ((with_reducible refine (k0.out _).mono ?_); rintro e w' ⟨rfl, rfl⟩)) | (go_at_call 145; refine (c0.out _).mono ?_; rintro e w' ⟨rfl, rfl⟩))
    go_ret
    exact ⟨ret_bool HR.out.symm, (Below.refl _ _).alloc (Nat.le_refl _) _⟩
set_option maxHeartbeats 4000000 in
theorem rlegal_4 (op rd rs1 rs2 imm : Int) (w : World) (hs : Is.shape op = 4) : Calls Tryz.prog 153 #[.agg #[.int .i64 op, .int .i64 rd, .int .i64 rs1, .int .i64 rs2, .int .i64 imm]] w fun e w' => e = .returned (.bool (Is.legal ⟨op, rd, rs1, rs2, imm⟩)) ∧ Below w.heap.size w w' := by
  have c0 := Lib.hid (fun w => shape_ref op w)
  have HL := Lib.hid (show Is.legal ⟨op, rd, rs1, rs2, imm⟩ = (decide (0 ≤ Is.shape op) && (Is.regB rd (Is.uses (Is.shape op)).rd && (Is.regB rs1 (Is.uses (Is.shape op)).rs1 && (Is.regB rs2 (Is.uses (Is.shape op)).rs2 &&
    (decide ((Is.uses (Is.shape op)).least ≤ imm) && (decide (imm ≤ (Is.uses (Is.shape op)).most) && (!(Is.uses (Is.shape op)).even || decide (imm % 2 = 0)))))))) from rfl)
  rw [hs] at c0 HL
  clear hs
  have e1 : IntKind.i64.wrap op = op ∨ True := .inr trivial
  clear e1
  go_enter Tryz.func153, Tryz.ntmps153
  by_cases p0 : (0 : Int) ≤ rd ∧ rd ≤ 31
  · have k0 := Lib.hid (fun w => in_yes (0) rd (31) w p0)
    by_cases p1 : (0 : Int) ≤ rs1 ∧ rs1 ≤ 31
    · have k1 := Lib.hid (fun w => in_yes (0) rs1 (31) w p1)
      by_cases p2 : (0 : Int) ≤ rs2 ∧ rs2 ≤ 31
      · have k2 := Lib.hid (fun w => in_yes (0) rs2 (31) w p2)
        by_cases p3 : rd = 0
        · have g3 : (rd == 0) = true := by simp [p3]
          by_cases p4 : (-2048 : Int) ≤ imm ∧ imm ≤ 2047
          · have k3 := Lib.hid (fun w => in_yes (-2048) imm (2047) w p4)
            have HR := Lib.hid (show Is.legal ⟨op, rd, rs1, rs2, imm⟩ = true by rw [HL.out]; simp [Is.uses, Is.regB] <;> omega)
            clear HL p0 p1 p2 p3 p4
            go_wp2_with (first | (go_at_call 226; first | ((with_reducible refine (k0.out _).mono ?_); rintro e w' ⟨rfl, rfl⟩) | ((with_reducible refine (k1.out _).mono ?_); rintro e w' ⟨rfl, rfl⟩) | ((with_reducible refine (k2.out _).mono ?_); rintro e w' ⟨rfl, rfl⟩) | ((with_reducible refine (k3.out _).mono ?_); rintro e w' ⟨rfl, rfl⟩)) | (go_at_call 145; refine (c0.out _).mono ?_; rintro e w' ⟨rfl, rfl⟩))
            go_ret
            exact ⟨ret_bool HR.out.symm, (Below.refl _ _).alloc (Nat.le_refl _) _⟩
          · have k3 := Lib.hid (fun w => in_no (-2048) imm (2047) w p4)
            have HR := Lib.hid (show Is.legal ⟨op, rd, rs1, rs2, imm⟩ = false by rw [HL.out]; simp [Is.uses, Is.regB] <;> omega)
            clear HL p0 p1 p2 p3 p4
            go_wp2_with (first | (go_at_call 226; first | ((with_reducible refine (k0.out _).mono ?_); rintro e w' ⟨rfl, rfl⟩) | ((with_reducible refine (k1.out _).mono ?_); rintro e w' ⟨rfl, rfl⟩) | ((with_reducible refine (k2.out _).mono ?_); rintro e w' ⟨rfl, rfl⟩) | ((with_reducible refine (k3.out _).mono ?_); rintro e w' ⟨rfl, rfl⟩)) | (go_at_call 145; refine (c0.out _).mono ?_; rintro e w' ⟨rfl, rfl⟩))
            go_ret
            exact ⟨ret_bool HR.out.symm, (Below.refl _ _).alloc (Nat.le_refl _) _⟩
        · have g3 : (rd == 0) = false := by simp [p3]
          have HR := Lib.hid (show Is.legal ⟨op, rd, rs1, rs2, imm⟩ = false by rw [HL.out]; simp [Is.uses, Is.regB] <;> omega)
          clear HL p0 p1 p2 p3
          go_wp2_with (first | (go_at_call 226; first | ((with_reducible refine (k0.out _).mono ?_); rintro e w' ⟨rfl, rfl⟩) | ((with_reducible refine (k1.out _).mono ?_); rintro e w' ⟨rfl, rfl⟩) | ((with_reducible refine (k2.out _).mono ?_); rintro e w' ⟨rfl, rfl⟩)) | (go_at_call 145; refine (c0.out _).mono ?_; rintro e w' ⟨rfl, rfl⟩))
          go_ret
          exact ⟨ret_bool HR.out.symm, (Below.refl _ _).alloc (Nat.le_refl _) _⟩
      · have k2 := Lib.hid (fun w => in_no (0) rs2 (31) w p2)
        have HR := Lib.hid (show Is.legal ⟨op, rd, rs1, rs2, imm⟩ = false by rw [HL.out]; simp [Is.uses, Is.regB] <;> omega)
        clear HL p0 p1 p2
        go_wp2_with (first | (go_at_call 226; first | ((with_reducible refine (k0.out _).mono ?_); rintro e w' ⟨rfl, rfl⟩) | ((with_reducible refine (k1.out _).mono ?_); rintro e w' ⟨rfl, rfl⟩) | ((with_reducible refine (k2.out _).mono ?_); rintro e w' ⟨rfl, rfl⟩)) | (go_at_call 145; refine (c0.out _).mono ?_; rintro e w' ⟨rfl, rfl⟩))
        go_ret
        exact ⟨ret_bool HR.out.symm, (Below.refl _ _).alloc (Nat.le_refl _) _⟩
    · have k1 := Lib.hid (fun w => in_no (0) rs1 (31) w p1)
      have HR := Lib.hid (show Is.legal ⟨op, rd, rs1, rs2, imm⟩ = false by rw [HL.out]; simp [Is.uses, Is.regB] <;> omega)
      clear HL p0 p1
      go_wp2_with (first | (go_at_call 226; first | ((with_reducible refine (k0.out _).mono ?_); rintro e w' ⟨rfl, rfl⟩) | ((with_reducible refine (k1.out _).mono ?_); rintro e w' ⟨rfl, rfl⟩)) | (go_at_call 145; refine (c0.out _).mono ?_; rintro e w' ⟨rfl, rfl⟩))
      go_ret
      exact ⟨ret_bool HR.out.symm, (Below.refl _ _).alloc (Nat.le_refl _) _⟩
  · have k0 := Lib.hid (fun w => in_no (0) rd (31) w p0)
    have HR := Lib.hid (show Is.legal ⟨op, rd, rs1, rs2, imm⟩ = false by rw [HL.out]; simp [Is.uses, Is.regB] <;> omega)
    clear HL p0
    go_wp2_with (first | (go_at_call 226; first | ((with_reducible refine (k0.out _).mono ?_); rintro e w' ⟨rfl, rfl⟩)) | (go_at_call 145; refine (c0.out _).mono ?_; rintro e w' ⟨rfl, rfl⟩))
    go_ret
    exact ⟨ret_bool HR.out.symm, (Below.refl _ _).alloc (Nat.le_refl _) _⟩
set_option maxHeartbeats 4000000 in
theorem rlegal_5 (op rd rs1 rs2 imm : Int) (w : World) (hs : Is.shape op = 5) : Calls Tryz.prog 153 #[.agg #[.int .i64 op, .int .i64 rd, .int .i64 rs1, .int .i64 rs2, .int .i64 imm]] w fun e w' => e = .returned (.bool (Is.legal ⟨op, rd, rs1, rs2, imm⟩)) ∧ Below w.heap.size w w' := by
  have c0 := Lib.hid (fun w => shape_ref op w)
  have HL := Lib.hid (show Is.legal ⟨op, rd, rs1, rs2, imm⟩ = (decide (0 ≤ Is.shape op) && (Is.regB rd (Is.uses (Is.shape op)).rd && (Is.regB rs1 (Is.uses (Is.shape op)).rs1 && (Is.regB rs2 (Is.uses (Is.shape op)).rs2 &&
    (decide ((Is.uses (Is.shape op)).least ≤ imm) && (decide (imm ≤ (Is.uses (Is.shape op)).most) && (!(Is.uses (Is.shape op)).even || decide (imm % 2 = 0)))))))) from rfl)
  rw [hs] at c0 HL
  clear hs
  have e1 : IntKind.i64.wrap op = op ∨ True := .inr trivial
  clear e1
  go_enter Tryz.func153, Tryz.ntmps153
  by_cases p0 : (0 : Int) ≤ rd ∧ rd ≤ 31
  · have k0 := Lib.hid (fun w => in_yes (0) rd (31) w p0)
    by_cases p1 : (0 : Int) ≤ rs1 ∧ rs1 ≤ 31
    · have k1 := Lib.hid (fun w => in_yes (0) rs1 (31) w p1)
      by_cases p2 : (0 : Int) ≤ rs2 ∧ rs2 ≤ 31
      · have k2 := Lib.hid (fun w => in_yes (0) rs2 (31) w p2)
        by_cases p3 : rs2 = 0
        · have g3 : (rs2 == 0) = true := by simp [p3]
          by_cases p4 : (0 : Int) ≤ imm ∧ imm ≤ 31
          · have k3 := Lib.hid (fun w => in_yes (0) imm (31) w p4)
            have HR := Lib.hid (show Is.legal ⟨op, rd, rs1, rs2, imm⟩ = true by rw [HL.out]; simp [Is.uses, Is.regB] <;> omega)
            clear HL p0 p1 p2 p3 p4
            go_wp2_with (first | (go_at_call 226; first | ((with_reducible refine (k0.out _).mono ?_); rintro e w' ⟨rfl, rfl⟩) | ((with_reducible refine (k1.out _).mono ?_); rintro e w' ⟨rfl, rfl⟩) | ((with_reducible refine (k2.out _).mono ?_); rintro e w' ⟨rfl, rfl⟩) | ((with_reducible refine (k3.out _).mono ?_); rintro e w' ⟨rfl, rfl⟩)) | (go_at_call 145; refine (c0.out _).mono ?_; rintro e w' ⟨rfl, rfl⟩))
            go_ret
            exact ⟨ret_bool HR.out.symm, (Below.refl _ _).alloc (Nat.le_refl _) _⟩
          · have k3 := Lib.hid (fun w => in_no (0) imm (31) w p4)
            have HR := Lib.hid (show Is.legal ⟨op, rd, rs1, rs2, imm⟩ = false by rw [HL.out]; simp [Is.uses, Is.regB] <;> omega)
            clear HL p0 p1 p2 p3 p4
            go_wp2_with (first | (go_at_call 226; first | ((with_reducible refine (k0.out _).mono ?_); rintro e w' ⟨rfl, rfl⟩) | ((with_reducible refine (k1.out _).mono ?_); rintro e w' ⟨rfl, rfl⟩) | ((with_reducible refine (k2.out _).mono ?_); rintro e w' ⟨rfl, rfl⟩) | ((with_reducible refine (k3.out _).mono ?_); rintro e w' ⟨rfl, rfl⟩)) | (go_at_call 145; refine (c0.out _).mono ?_; rintro e w' ⟨rfl, rfl⟩))
            go_ret
            exact ⟨ret_bool HR.out.symm, (Below.refl _ _).alloc (Nat.le_refl _) _⟩
        · have g3 : (rs2 == 0) = false := by simp [p3]
          have HR := Lib.hid (show Is.legal ⟨op, rd, rs1, rs2, imm⟩ = false by rw [HL.out]; simp [Is.uses, Is.regB] <;> omega)
          clear HL p0 p1 p2 p3
          go_wp2_with (first | (go_at_call 226; first | ((with_reducible refine (k0.out _).mono ?_); rintro e w' ⟨rfl, rfl⟩) | ((with_reducible refine (k1.out _).mono ?_); rintro e w' ⟨rfl, rfl⟩) | ((with_reducible refine (k2.out _).mono ?_); rintro e w' ⟨rfl, rfl⟩)) | (go_at_call 145; refine (c0.out _).mono ?_; rintro e w' ⟨rfl, rfl⟩))
          go_ret
          exact ⟨ret_bool HR.out.symm, (Below.refl _ _).alloc (Nat.le_refl _) _⟩
      · have k2 := Lib.hid (fun w => in_no (0) rs2 (31) w p2)
        have HR := Lib.hid (show Is.legal ⟨op, rd, rs1, rs2, imm⟩ = false by rw [HL.out]; simp [Is.uses, Is.regB] <;> omega)
        clear HL p0 p1 p2
        go_wp2_with (first | (go_at_call 226; first | ((with_reducible refine (k0.out _).mono ?_); rintro e w' ⟨rfl, rfl⟩) | ((with_reducible refine (k1.out _).mono ?_); rintro e w' ⟨rfl, rfl⟩) | ((with_reducible refine (k2.out _).mono ?_); rintro e w' ⟨rfl, rfl⟩)) | (go_at_call 145; refine (c0.out _).mono ?_; rintro e w' ⟨rfl, rfl⟩))
        go_ret
        exact ⟨ret_bool HR.out.symm, (Below.refl _ _).alloc (Nat.le_refl _) _⟩
    · have k1 := Lib.hid (fun w => in_no (0) rs1 (31) w p1)
      have HR := Lib.hid (show Is.legal ⟨op, rd, rs1, rs2, imm⟩ = false by rw [HL.out]; simp [Is.uses, Is.regB] <;> omega)
      clear HL p0 p1
      go_wp2_with (first | (go_at_call 226; first | ((with_reducible refine (k0.out _).mono ?_); rintro e w' ⟨rfl, rfl⟩) | ((with_reducible refine (k1.out _).mono ?_); rintro e w' ⟨rfl, rfl⟩)) | (go_at_call 145; refine (c0.out _).mono ?_; rintro e w' ⟨rfl, rfl⟩))
      go_ret
      exact ⟨ret_bool HR.out.symm, (Below.refl _ _).alloc (Nat.le_refl _) _⟩
  · have k0 := Lib.hid (fun w => in_no (0) rd (31) w p0)
    have HR := Lib.hid (show Is.legal ⟨op, rd, rs1, rs2, imm⟩ = false by rw [HL.out]; simp [Is.uses, Is.regB] <;> omega)
    clear HL p0
    go_wp2_with (first | (go_at_call 226; first | ((with_reducible refine (k0.out _).mono ?_); rintro e w' ⟨rfl, rfl⟩)) | (go_at_call 145; refine (c0.out _).mono ?_; rintro e w' ⟨rfl, rfl⟩))
    go_ret
    exact ⟨ret_bool HR.out.symm, (Below.refl _ _).alloc (Nat.le_refl _) _⟩
set_option maxHeartbeats 4000000 in
theorem rlegal_6 (op rd rs1 rs2 imm : Int) (w : World) (hs : Is.shape op = 6) : Calls Tryz.prog 153 #[.agg #[.int .i64 op, .int .i64 rd, .int .i64 rs1, .int .i64 rs2, .int .i64 imm]] w fun e w' => e = .returned (.bool (Is.legal ⟨op, rd, rs1, rs2, imm⟩)) ∧ Below w.heap.size w w' := by
  have c0 := Lib.hid (fun w => shape_ref op w)
  have HL := Lib.hid (show Is.legal ⟨op, rd, rs1, rs2, imm⟩ = (decide (0 ≤ Is.shape op) && (Is.regB rd (Is.uses (Is.shape op)).rd && (Is.regB rs1 (Is.uses (Is.shape op)).rs1 && (Is.regB rs2 (Is.uses (Is.shape op)).rs2 &&
    (decide ((Is.uses (Is.shape op)).least ≤ imm) && (decide (imm ≤ (Is.uses (Is.shape op)).most) && (!(Is.uses (Is.shape op)).even || decide (imm % 2 = 0)))))))) from rfl)
  rw [hs] at c0 HL
  clear hs
  have e1 : IntKind.i64.wrap op = op ∨ True := .inr trivial
  clear e1
  go_enter Tryz.func153, Tryz.ntmps153
  by_cases p0 : (0 : Int) ≤ rd ∧ rd ≤ 31
  · have k0 := Lib.hid (fun w => in_yes (0) rd (31) w p0)
    by_cases p1 : (0 : Int) ≤ rs1 ∧ rs1 ≤ 31
    · have k1 := Lib.hid (fun w => in_yes (0) rs1 (31) w p1)
      by_cases p2 : (0 : Int) ≤ rs2 ∧ rs2 ≤ 31
      · have k2 := Lib.hid (fun w => in_yes (0) rs2 (31) w p2)
        by_cases p3 : imm = 0
        · have g3 : (imm == 0) = true := by simp [p3]
          have HR := Lib.hid (show Is.legal ⟨op, rd, rs1, rs2, imm⟩ = true by rw [HL.out]; simp [Is.uses, Is.regB] <;> omega)
          clear HL p0 p1 p2 p3
          go_wp2_with (first | (go_at_call 226; first | ((with_reducible refine (k0.out _).mono ?_); rintro e w' ⟨rfl, rfl⟩) | ((with_reducible refine (k1.out _).mono ?_); rintro e w' ⟨rfl, rfl⟩) | ((with_reducible refine (k2.out _).mono ?_); rintro e w' ⟨rfl, rfl⟩)) | (go_at_call 145; refine (c0.out _).mono ?_; rintro e w' ⟨rfl, rfl⟩))
          go_ret
          exact ⟨ret_bool HR.out.symm, (Below.refl _ _).alloc (Nat.le_refl _) _⟩
        · have g3 : (imm == 0) = false := by simp [p3]
          have HR := Lib.hid (show Is.legal ⟨op, rd, rs1, rs2, imm⟩ = false by rw [HL.out]; simp [Is.uses, Is.regB] <;> omega)
          clear HL p0 p1 p2 p3
          go_wp2_with (first | (go_at_call 226; first | ((with_reducible refine (k0.out _).mono ?_); rintro e w' ⟨rfl, rfl⟩) | ((with_reducible refine (k1.out _).mono ?_); rintro e w' ⟨rfl, rfl⟩) | ((with_reducible refine (k2.out _).mono ?_); rintro e w' ⟨rfl, rfl⟩)) | (go_at_call 145; refine (c0.out _).mono ?_; rintro e w' ⟨rfl, rfl⟩))
          go_ret
          exact ⟨ret_bool HR.out.symm, (Below.refl _ _).alloc (Nat.le_refl _) _⟩
      · have k2 := Lib.hid (fun w => in_no (0) rs2 (31) w p2)
        have HR := Lib.hid (show Is.legal ⟨op, rd, rs1, rs2, imm⟩ = false by rw [HL.out]; simp [Is.uses, Is.regB] <;> omega)
        clear HL p0 p1 p2
        go_wp2_with (first | (go_at_call 226; first | ((with_reducible refine (k0.out _).mono ?_); rintro e w' ⟨rfl, rfl⟩) | ((with_reducible refine (k1.out _).mono ?_); rintro e w' ⟨rfl, rfl⟩) | ((with_reducible refine (k2.out _).mono ?_); rintro e w' ⟨rfl, rfl⟩)) | (go_at_call 145; refine (c0.out _).mono ?_; rintro e w' ⟨rfl, rfl⟩))
        go_ret
        exact ⟨ret_bool HR.out.symm, (Below.refl _ _).alloc (Nat.le_refl _) _⟩
    · have k1 := Lib.hid (fun w => in_no (0) rs1 (31) w p1)
      have HR := Lib.hid (show Is.legal ⟨op, rd, rs1, rs2, imm⟩ = false by rw [HL.out]; simp [Is.uses, Is.regB] <;> omega)
      clear HL p0 p1
      go_wp2_with (first | (go_at_call 226; first | ((with_reducible refine (k0.out _).mono ?_); rintro e w' ⟨rfl, rfl⟩) | ((with_reducible refine (k1.out _).mono ?_); rintro e w' ⟨rfl, rfl⟩)) | (go_at_call 145; refine (c0.out _).mono ?_; rintro e w' ⟨rfl, rfl⟩))
      go_ret
      exact ⟨ret_bool HR.out.symm, (Below.refl _ _).alloc (Nat.le_refl _) _⟩
  · have k0 := Lib.hid (fun w => in_no (0) rd (31) w p0)
    have HR := Lib.hid (show Is.legal ⟨op, rd, rs1, rs2, imm⟩ = false by rw [HL.out]; simp [Is.uses, Is.regB] <;> omega)
    clear HL p0
    go_wp2_with (first | (go_at_call 226; first | ((with_reducible refine (k0.out _).mono ?_); rintro e w' ⟨rfl, rfl⟩)) | (go_at_call 145; refine (c0.out _).mono ?_; rintro e w' ⟨rfl, rfl⟩))
    go_ret
    exact ⟨ret_bool HR.out.symm, (Below.refl _ _).alloc (Nat.le_refl _) _⟩
set_option maxHeartbeats 4000000 in
theorem rlegal_7 (op rd rs1 rs2 imm : Int) (w : World) (hs : Is.shape op = 7) : Calls Tryz.prog 153 #[.agg #[.int .i64 op, .int .i64 rd, .int .i64 rs1, .int .i64 rs2, .int .i64 imm]] w fun e w' => e = .returned (.bool (Is.legal ⟨op, rd, rs1, rs2, imm⟩)) ∧ Below w.heap.size w w' := by
  have c0 := Lib.hid (fun w => shape_ref op w)
  have HL := Lib.hid (show Is.legal ⟨op, rd, rs1, rs2, imm⟩ = (decide (0 ≤ Is.shape op) && (Is.regB rd (Is.uses (Is.shape op)).rd && (Is.regB rs1 (Is.uses (Is.shape op)).rs1 && (Is.regB rs2 (Is.uses (Is.shape op)).rs2 &&
    (decide ((Is.uses (Is.shape op)).least ≤ imm) && (decide (imm ≤ (Is.uses (Is.shape op)).most) && (!(Is.uses (Is.shape op)).even || decide (imm % 2 = 0)))))))) from rfl)
  rw [hs] at c0 HL
  clear hs
  have e1 : IntKind.i64.wrap op = op ∨ True := .inr trivial
  clear e1
  go_enter Tryz.func153, Tryz.ntmps153
  by_cases p0 : (0 : Int) ≤ rd ∧ rd ≤ 31
  · have k0 := Lib.hid (fun w => in_yes (0) rd (31) w p0)
    by_cases p1 : (0 : Int) ≤ rs1 ∧ rs1 ≤ 31
    · have k1 := Lib.hid (fun w => in_yes (0) rs1 (31) w p1)
      by_cases p2 : (0 : Int) ≤ rs2 ∧ rs2 ≤ 31
      · have k2 := Lib.hid (fun w => in_yes (0) rs2 (31) w p2)
        have q := fun W => inst_eql ⟨op, rd, rs1, rs2, imm⟩ ⟨op, 0, 0, 0, 0⟩ W
        by_cases p3 : rd = 0 ∧ rs1 = 0 ∧ rs2 = 0 ∧ imm = 0
        · rw [show decide ((⟨op, rd, rs1, rs2, imm⟩ : Is.Inst) = ⟨op, 0, 0, 0, 0⟩) = true by simp [p3]] at q
          have HR := Lib.hid (show Is.legal ⟨op, rd, rs1, rs2, imm⟩ = true by rw [HL.out]; simp [Is.uses, Is.regB] <;> omega)
          clear HL p0 p1 p2 p3
          go_wp2_with (first | (go_at_call 226; first | ((with_reducible refine (k0.out _).mono ?_); rintro e w' ⟨rfl, rfl⟩) | ((with_reducible refine (k1.out _).mono ?_); rintro e w' ⟨rfl, rfl⟩) | ((with_reducible refine (k2.out _).mono ?_); rintro e w' ⟨rfl, rfl⟩)) | (go_at_call 145; refine (c0.out _).mono ?_; rintro e w' ⟨rfl, rfl⟩))
          go_ret
          exact ⟨ret_bool HR.out.symm, (Below.refl _ _).alloc (Nat.le_refl _) _⟩
        · rw [show decide ((⟨op, rd, rs1, rs2, imm⟩ : Is.Inst) = ⟨op, 0, 0, 0, 0⟩) = false by simpa using p3] at q
          have HR := Lib.hid (show Is.legal ⟨op, rd, rs1, rs2, imm⟩ = false by rw [HL.out]; simp [Is.uses, Is.regB] <;> omega)
          clear HL p0 p1 p2 p3
          go_wp2_with (first | (go_at_call 226; first | ((with_reducible refine (k0.out _).mono ?_); rintro e w' ⟨rfl, rfl⟩) | ((with_reducible refine (k1.out _).mono ?_); rintro e w' ⟨rfl, rfl⟩) | ((with_reducible refine (k2.out _).mono ?_); rintro e w' ⟨rfl, rfl⟩)) | (go_at_call 145; refine (c0.out _).mono ?_; rintro e w' ⟨rfl, rfl⟩))
          go_ret
          exact ⟨ret_bool HR.out.symm, (Below.refl _ _).alloc (Nat.le_refl _) _⟩
      · have k2 := Lib.hid (fun w => in_no (0) rs2 (31) w p2)
        have HR := Lib.hid (show Is.legal ⟨op, rd, rs1, rs2, imm⟩ = false by rw [HL.out]; simp [Is.uses, Is.regB] <;> omega)
        clear HL p0 p1 p2
        go_wp2_with (first | (go_at_call 226; first | ((with_reducible refine (k0.out _).mono ?_); rintro e w' ⟨rfl, rfl⟩) | ((with_reducible refine (k1.out _).mono ?_); rintro e w' ⟨rfl, rfl⟩) | ((with_reducible refine (k2.out _).mono ?_); rintro e w' ⟨rfl, rfl⟩)) | (go_at_call 145; refine (c0.out _).mono ?_; rintro e w' ⟨rfl, rfl⟩))
        go_ret
        exact ⟨ret_bool HR.out.symm, (Below.refl _ _).alloc (Nat.le_refl _) _⟩
    · have k1 := Lib.hid (fun w => in_no (0) rs1 (31) w p1)
      have HR := Lib.hid (show Is.legal ⟨op, rd, rs1, rs2, imm⟩ = false by rw [HL.out]; simp [Is.uses, Is.regB] <;> omega)
      clear HL p0 p1
      go_wp2_with (first | (go_at_call 226; first | ((with_reducible refine (k0.out _).mono ?_); rintro e w' ⟨rfl, rfl⟩) | ((with_reducible refine (k1.out _).mono ?_); rintro e w' ⟨rfl, rfl⟩)) | (go_at_call 145; refine (c0.out _).mono ?_; rintro e w' ⟨rfl, rfl⟩))
      go_ret
      exact ⟨ret_bool HR.out.symm, (Below.refl _ _).alloc (Nat.le_refl _) _⟩
  · have k0 := Lib.hid (fun w => in_no (0) rd (31) w p0)
    have HR := Lib.hid (show Is.legal ⟨op, rd, rs1, rs2, imm⟩ = false by rw [HL.out]; simp [Is.uses, Is.regB] <;> omega)
    clear HL p0
    go_wp2_with (first | (go_at_call 226; first | ((with_reducible refine (k0.out _).mono ?_); rintro e w' ⟨rfl, rfl⟩)) | (go_at_call 145; refine (c0.out _).mono ?_; rintro e w' ⟨rfl, rfl⟩))
    go_ret
    exact ⟨ret_bool HR.out.symm, (Below.refl _ _).alloc (Nat.le_refl _) _⟩
set_option maxHeartbeats 4000000 in
theorem rlegal_8 (op rd rs1 rs2 imm : Int) (w : World) (hs : Is.shape op = 8) : Calls Tryz.prog 153 #[.agg #[.int .i64 op, .int .i64 rd, .int .i64 rs1, .int .i64 rs2, .int .i64 imm]] w fun e w' => e = .returned (.bool (Is.legal ⟨op, rd, rs1, rs2, imm⟩)) ∧ Below w.heap.size w w' := by
  have c0 := Lib.hid (fun w => shape_ref op w)
  have HL := Lib.hid (show Is.legal ⟨op, rd, rs1, rs2, imm⟩ = (decide (0 ≤ Is.shape op) && (Is.regB rd (Is.uses (Is.shape op)).rd && (Is.regB rs1 (Is.uses (Is.shape op)).rs1 && (Is.regB rs2 (Is.uses (Is.shape op)).rs2 &&
    (decide ((Is.uses (Is.shape op)).least ≤ imm) && (decide (imm ≤ (Is.uses (Is.shape op)).most) && (!(Is.uses (Is.shape op)).even || decide (imm % 2 = 0)))))))) from rfl)
  rw [hs] at c0 HL
  clear hs
  have e1 : IntKind.i64.wrap op = op ∨ True := .inr trivial
  clear e1
  go_enter Tryz.func153, Tryz.ntmps153
  by_cases p0 : (0 : Int) ≤ rd ∧ rd ≤ 31
  · have k0 := Lib.hid (fun w => in_yes (0) rd (31) w p0)
    by_cases p1 : (0 : Int) ≤ rs1 ∧ rs1 ≤ 31
    · have k1 := Lib.hid (fun w => in_yes (0) rs1 (31) w p1)
      by_cases p2 : (0 : Int) ≤ rs2 ∧ rs2 ≤ 31
      · have k2 := Lib.hid (fun w => in_yes (0) rs2 (31) w p2)
        by_cases p3 : rd = 0
        · have g3 : (rd == 0) = true := by simp [p3]
          by_cases p4 : rs1 = 0
          · have g4 : (rs1 == 0) = true := by simp [p4]
            by_cases p5 : rs2 = 0
            · have g5 : (rs2 == 0) = true := by simp [p5]
              by_cases p6 : (-2048 : Int) ≤ imm ∧ imm ≤ 2047
              · have k3 := Lib.hid (fun w => in_yes (-2048) imm (2047) w p6)
                have HR := Lib.hid (show Is.legal ⟨op, rd, rs1, rs2, imm⟩ = true by rw [HL.out]; simp [Is.uses, Is.regB] <;> omega)
                clear HL p0 p1 p2 p3 p4 p5 p6
                go_wp2_with (first | (go_at_call 226; first | ((with_reducible refine (k0.out _).mono ?_); rintro e w' ⟨rfl, rfl⟩) | ((with_reducible refine (k1.out _).mono ?_); rintro e w' ⟨rfl, rfl⟩) | ((with_reducible refine (k2.out _).mono ?_); rintro e w' ⟨rfl, rfl⟩) | ((with_reducible refine (k3.out _).mono ?_); rintro e w' ⟨rfl, rfl⟩)) | (go_at_call 145; refine (c0.out _).mono ?_; rintro e w' ⟨rfl, rfl⟩))
                go_ret
                exact ⟨ret_bool HR.out.symm, (Below.refl _ _).alloc (Nat.le_refl _) _⟩
              · have k3 := Lib.hid (fun w => in_no (-2048) imm (2047) w p6)
                have HR := Lib.hid (show Is.legal ⟨op, rd, rs1, rs2, imm⟩ = false by rw [HL.out]; simp [Is.uses, Is.regB] <;> omega)
                clear HL p0 p1 p2 p3 p4 p5 p6
                go_wp2_with (first | (go_at_call 226; first | ((with_reducible refine (k0.out _).mono ?_); rintro e w' ⟨rfl, rfl⟩) | ((with_reducible refine (k1.out _).mono ?_); rintro e w' ⟨rfl, rfl⟩) | ((with_reducible refine (k2.out _).mono ?_); rintro e w' ⟨rfl, rfl⟩) | ((with_reducible refine (k3.out _).mono ?_); rintro e w' ⟨rfl, rfl⟩)) | (go_at_call 145; refine (c0.out _).mono ?_; rintro e w' ⟨rfl, rfl⟩))
                go_ret
                exact ⟨ret_bool HR.out.symm, (Below.refl _ _).alloc (Nat.le_refl _) _⟩
            · have g5 : (rs2 == 0) = false := by simp [p5]
              have HR := Lib.hid (show Is.legal ⟨op, rd, rs1, rs2, imm⟩ = false by rw [HL.out]; simp [Is.uses, Is.regB] <;> omega)
              clear HL p0 p1 p2 p3 p4 p5
              go_wp2_with (first | (go_at_call 226; first | ((with_reducible refine (k0.out _).mono ?_); rintro e w' ⟨rfl, rfl⟩) | ((with_reducible refine (k1.out _).mono ?_); rintro e w' ⟨rfl, rfl⟩) | ((with_reducible refine (k2.out _).mono ?_); rintro e w' ⟨rfl, rfl⟩)) | (go_at_call 145; refine (c0.out _).mono ?_; rintro e w' ⟨rfl, rfl⟩))
              go_ret
              exact ⟨ret_bool HR.out.symm, (Below.refl _ _).alloc (Nat.le_refl _) _⟩
          · have g4 : (rs1 == 0) = false := by simp [p4]
            have HR := Lib.hid (show Is.legal ⟨op, rd, rs1, rs2, imm⟩ = false by rw [HL.out]; simp [Is.uses, Is.regB] <;> omega)
            clear HL p0 p1 p2 p3 p4
            go_wp2_with (first | (go_at_call 226; first | ((with_reducible refine (k0.out _).mono ?_); rintro e w' ⟨rfl, rfl⟩) | ((with_reducible refine (k1.out _).mono ?_); rintro e w' ⟨rfl, rfl⟩) | ((with_reducible refine (k2.out _).mono ?_); rintro e w' ⟨rfl, rfl⟩)) | (go_at_call 145; refine (c0.out _).mono ?_; rintro e w' ⟨rfl, rfl⟩))
            go_ret
            exact ⟨ret_bool HR.out.symm, (Below.refl _ _).alloc (Nat.le_refl _) _⟩
        · have g3 : (rd == 0) = false := by simp [p3]
          have HR := Lib.hid (show Is.legal ⟨op, rd, rs1, rs2, imm⟩ = false by rw [HL.out]; simp [Is.uses, Is.regB] <;> omega)
          clear HL p0 p1 p2 p3
          go_wp2_with (first | (go_at_call 226; first | ((with_reducible refine (k0.out _).mono ?_); rintro e w' ⟨rfl, rfl⟩) | ((with_reducible refine (k1.out _).mono ?_); rintro e w' ⟨rfl, rfl⟩) | ((with_reducible refine (k2.out _).mono ?_); rintro e w' ⟨rfl, rfl⟩)) | (go_at_call 145; refine (c0.out _).mono ?_; rintro e w' ⟨rfl, rfl⟩))
          go_ret
          exact ⟨ret_bool HR.out.symm, (Below.refl _ _).alloc (Nat.le_refl _) _⟩
      · have k2 := Lib.hid (fun w => in_no (0) rs2 (31) w p2)
        have HR := Lib.hid (show Is.legal ⟨op, rd, rs1, rs2, imm⟩ = false by rw [HL.out]; simp [Is.uses, Is.regB] <;> omega)
        clear HL p0 p1 p2
        go_wp2_with (first | (go_at_call 226; first | ((with_reducible refine (k0.out _).mono ?_); rintro e w' ⟨rfl, rfl⟩) | ((with_reducible refine (k1.out _).mono ?_); rintro e w' ⟨rfl, rfl⟩) | ((with_reducible refine (k2.out _).mono ?_); rintro e w' ⟨rfl, rfl⟩)) | (go_at_call 145; refine (c0.out _).mono ?_; rintro e w' ⟨rfl, rfl⟩))
        go_ret
        exact ⟨ret_bool HR.out.symm, (Below.refl _ _).alloc (Nat.le_refl _) _⟩
    · have k1 := Lib.hid (fun w => in_no (0) rs1 (31) w p1)
      have HR := Lib.hid (show Is.legal ⟨op, rd, rs1, rs2, imm⟩ = false by rw [HL.out]; simp [Is.uses, Is.regB] <;> omega)
      clear HL p0 p1
      go_wp2_with (first | (go_at_call 226; first | ((with_reducible refine (k0.out _).mono ?_); rintro e w' ⟨rfl, rfl⟩) | ((with_reducible refine (k1.out _).mono ?_); rintro e w' ⟨rfl, rfl⟩)) | (go_at_call 145; refine (c0.out _).mono ?_; rintro e w' ⟨rfl, rfl⟩))
      go_ret
      exact ⟨ret_bool HR.out.symm, (Below.refl _ _).alloc (Nat.le_refl _) _⟩
  · have k0 := Lib.hid (fun w => in_no (0) rd (31) w p0)
    have HR := Lib.hid (show Is.legal ⟨op, rd, rs1, rs2, imm⟩ = false by rw [HL.out]; simp [Is.uses, Is.regB] <;> omega)
    clear HL p0
    go_wp2_with (first | (go_at_call 226; first | ((with_reducible refine (k0.out _).mono ?_); rintro e w' ⟨rfl, rfl⟩)) | (go_at_call 145; refine (c0.out _).mono ?_; rintro e w' ⟨rfl, rfl⟩))
    go_ret
    exact ⟨ret_bool HR.out.symm, (Below.refl _ _).alloc (Nat.le_refl _) _⟩
theorem legal_ref (i : Is.Inst) (w : World) : Calls Tryz.prog 153 #[i.v] w fun e w' => e = .returned (.bool (Is.legal i)) ∧ Below w.heap.size w w' := by
  obtain ⟨op, rd, rs1, rs2, imm⟩ := i
  rcases Is.shape_cases op with h | h | h | h | h | h | h | h | h | h
  · exact rlegal_m1 op rd rs1 rs2 imm w h
  · exact rlegal_0 op rd rs1 rs2 imm w h
  · exact rlegal_1 op rd rs1 rs2 imm w h
  · exact rlegal_2 op rd rs1 rs2 imm w h
  · exact rlegal_3 op rd rs1 rs2 imm w h
  · exact rlegal_4 op rd rs1 rs2 imm w h
  · exact rlegal_5 op rd rs1 rs2 imm w h
  · exact rlegal_6 op rd rs1 rs2 imm w h
  · exact rlegal_7 op rd rs1 rs2 imm w h
  · exact rlegal_8 op rd rs1 rs2 imm w h
end Go.Proofs.YtpcpaoeajcjoiaaGreatDoor
