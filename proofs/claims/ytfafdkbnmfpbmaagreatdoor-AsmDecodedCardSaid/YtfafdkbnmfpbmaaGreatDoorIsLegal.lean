/- Walks: Legal, the program's and the document's. -/
import Derived.Test.YtfafdkbnmfpbmaaGreatDoorIsWalks
namespace Go.Proofs.YtfafdkbnmfpbmaaGreatDoor
open Go.RowKit
set_option linter.unusedVariables false
set_option linter.unusedSimpArgs false

/-- A record. -/
structure Is.Inst where
  op : Int
  rd : Int
  rs1 : Int
  rs2 : Int
  imm : Int
  deriving DecidableEq
abbrev Is.Inst.v (i : Is.Inst) : Value := .agg #[.int .i64 i.op, .int .i64 i.rd, .int .i64 i.rs1, .int .i64 i.rs2, .int .i64 i.imm]
abbrev Is.in64 (n : Int) : Prop := -9223372036854775808 ≤ n ∧ n ≤ 9223372036854775807
structure Is.Inst.ok (i : Is.Inst) : Prop where
  op : Is.in64 i.op
  rd : Is.in64 i.rd
  rs1 : Is.in64 i.rs1
  rs2 : Is.in64 i.rs2
  imm : Is.in64 i.imm

def Is.regB (n : Int) (has : Bool) : Bool := decide (n = 0) || (has && (decide (0 < n) && decide (n < 32)))
def Is.legal (i : Is.Inst) : Bool :=
  decide (0 ≤ Is.shape i.op) && (Is.regB i.rd (Is.uses (Is.shape i.op)).rd && (Is.regB i.rs1 (Is.uses (Is.shape i.op)).rs1 && (Is.regB i.rs2 (Is.uses (Is.shape i.op)).rs2 &&
    (decide ((Is.uses (Is.shape i.op)).least ≤ i.imm) && (decide (i.imm ≤ (Is.uses (Is.shape i.op)).most) && (!(Is.uses (Is.shape i.op)).even || decide (i.imm % 2 = 0)))))))
theorem Is.shape_cases (op : Int) : Is.shape op = -1 ∨ Is.shape op = 0 ∨ Is.shape op = 1 ∨ Is.shape op = 2 ∨ Is.shape op = 3 ∨ Is.shape op = 4 ∨ Is.shape op = 5 ∨ Is.shape op = 6 ∨ Is.shape op = 7 ∨ Is.shape op = 8 := by
  unfold Is.shape; (repeat' split) <;> simp
theorem Is.and_one (n : Int) (h : Is.in64 n) : bits .and .i64 n 1 = n % 2 := by
  show IntKind.i64.wrap ((BitVec.ofInt 64 n &&& BitVec.ofInt 64 1).toNat : Int) = _
  have h1 : (BitVec.ofInt 64 1).toNat = 1 := by decide
  have h2 : (BitVec.ofInt 64 n).toNat = (n % 18446744073709551616).toNat := by rw [BitVec.toNat_ofInt]; rfl
  rw [BitVec.toNat_and, h1, h2, Nat.and_one_is_mod, IntKind.wrap_i64]
  omega

set_option maxHeartbeats 4000000 in
theorem legal_own (i : Is.Inst) (w : World) (ok : i.ok) : Calls Tryz.prog 243 #[i.v] w fun e w' => e = .returned (.bool (Is.legal i)) ∧ Below w.heap.size w w' := by
  have hs := Is.shape_cases i.op
  have c0 := Lib.hid (fun w => shape_own i.op w)
  have hand := Is.and_one i.imm ok.imm
  obtain ⟨op, rd, rs1, rs2, imm⟩ := i
  have HL := Lib.hid (show Is.legal ⟨op, rd, rs1, rs2, imm⟩ = (decide (0 ≤ Is.shape op) && (Is.regB rd (Is.uses (Is.shape op)).rd && (Is.regB rs1 (Is.uses (Is.shape op)).rs1 && (Is.regB rs2 (Is.uses (Is.shape op)).rs2 &&
    (decide ((Is.uses (Is.shape op)).least ≤ imm) && (decide (imm ≤ (Is.uses (Is.shape op)).most) && (!(Is.uses (Is.shape op)).even || decide (imm % 2 = 0)))))))) from rfl)
  simp only at hs c0 hand
  generalize Is.shape op = s at *
  have c1 := Lib.hid (fun w => uses_own s w hs)
  generalize Is.uses s = u at *
  obtain ⟨u1, u2, u3, least, most, even⟩ := u
  have r1 := Lib.hid (fun w => reg_own rd u1 w)
  have r2 := Lib.hid (fun w => reg_own rs1 u2 w)
  have r3 := Lib.hid (fun w => reg_own rs2 u3 w)
  simp only [Is.Uses.v] at c1
  simp only [Is.regB] at HL
  generalize (decide (rd = 0) || (u1 && (decide (0 < rd) && decide (rd < 32)))) = b1 at *
  generalize (decide (rs1 = 0) || (u2 && (decide (0 < rs1) && decide (rs1 < 32)))) = b2 at *
  generalize (decide (rs2 = 0) || (u3 && (decide (0 < rs2) && decide (rs2 < 32)))) = b3 at *
  clear ok
  have HE := Lib.hid (show (imm % 2 == 0) = decide (imm % 2 = 0) from rfl)
  generalize imm % 2 = m2 at *
  clear hs
  go_enter Tryz.func243, Tryz.ntmps243
  go_wp2_with fail
  refine (c0.out _).mono ?_
  rintro e w' ⟨rfl, rfl⟩
  go_wp2_with fail
  refine (c1.out _).mono ?_
  rintro e w1 ⟨rfl, hb⟩
  simp only [World.size_alloc] at hb
  have q0 : w1.cell? ⟨w.heap.size, 0, none⟩ = some (.int .i64 op) := (hb.cell (p := ⟨w.heap.size, 0, none⟩) (by simp)).trans (by go_simp)
  have q1 : w1.cell? ⟨w.heap.size, 1, none⟩ = some (.int .i64 rd) := (hb.cell (p := ⟨w.heap.size, 1, none⟩) (by simp)).trans (by go_simp)
  have q2 : w1.cell? ⟨w.heap.size, 2, none⟩ = some (.int .i64 rs1) := (hb.cell (p := ⟨w.heap.size, 2, none⟩) (by simp)).trans (by go_simp)
  have q3 : w1.cell? ⟨w.heap.size, 3, none⟩ = some (.int .i64 rs2) := (hb.cell (p := ⟨w.heap.size, 3, none⟩) (by simp)).trans (by go_simp)
  have q4 : w1.cell? ⟨w.heap.size, 4, none⟩ = some (.int .i64 imm) := (hb.cell (p := ⟨w.heap.size, 4, none⟩) (by simp)).trans (by go_simp)
  have hz : w.heap.size < w1.heap.size := by have := hb.size; simp at this; omega
  have HB := Lib.hid (show Below w.heap.size w w1 from ((Below.refl _ _).alloc (Nat.le_refl _) _).trans (hb.mono (by omega)))
  clear hb
  by_cases hs : 0 ≤ s
  · cases b1
    · have HR := Lib.hid (show Is.legal ⟨op, rd, rs1, rs2, imm⟩ = false by rw [HL.out]; simp)
      clear HL HE
      go_wp2_with (go_at_call 279; first | ((with_reducible refine (r1.out _).mono ?_); rintro e w' ⟨rfl, rfl⟩) | ((with_reducible refine (r2.out _).mono ?_); rintro e w' ⟨rfl, rfl⟩) | ((with_reducible refine (r3.out _).mono ?_); rintro e w' ⟨rfl, rfl⟩))
      go_ret
      exact ⟨ret_bool HR.out.symm, (HB.out.alloc HB.out.size _)⟩
    · cases b2
      · have HR := Lib.hid (show Is.legal ⟨op, rd, rs1, rs2, imm⟩ = false by rw [HL.out]; simp)
        clear HL HE
        go_wp2_with (go_at_call 279; first | ((with_reducible refine (r1.out _).mono ?_); rintro e w' ⟨rfl, rfl⟩) | ((with_reducible refine (r2.out _).mono ?_); rintro e w' ⟨rfl, rfl⟩) | ((with_reducible refine (r3.out _).mono ?_); rintro e w' ⟨rfl, rfl⟩))
        go_ret
        exact ⟨ret_bool HR.out.symm, (HB.out.alloc HB.out.size _)⟩
      · cases b3
        · have HR := Lib.hid (show Is.legal ⟨op, rd, rs1, rs2, imm⟩ = false by rw [HL.out]; simp)
          clear HL HE
          go_wp2_with (go_at_call 279; first | ((with_reducible refine (r1.out _).mono ?_); rintro e w' ⟨rfl, rfl⟩) | ((with_reducible refine (r2.out _).mono ?_); rintro e w' ⟨rfl, rfl⟩) | ((with_reducible refine (r3.out _).mono ?_); rintro e w' ⟨rfl, rfl⟩))
          go_ret
          exact ⟨ret_bool HR.out.symm, (HB.out.alloc HB.out.size _)⟩
        · by_cases h1 : least ≤ imm
          · by_cases h2 : imm ≤ most
            · cases even
              · have HR := Lib.hid (show Is.legal ⟨op, rd, rs1, rs2, imm⟩ = true by rw [HL.out]; simp [hs, h1, h2])
                clear HL HE
                go_wp2_with (go_at_call 279; first | ((with_reducible refine (r1.out _).mono ?_); rintro e w' ⟨rfl, rfl⟩) | ((with_reducible refine (r2.out _).mono ?_); rintro e w' ⟨rfl, rfl⟩) | ((with_reducible refine (r3.out _).mono ?_); rintro e w' ⟨rfl, rfl⟩))
                go_ret
                exact ⟨ret_bool HR.out.symm, (HB.out.alloc HB.out.size _)⟩
              · by_cases h3 : m2 = 0
                · have g3 : (m2 == 0) = true := by simp [h3]
                  have HR := Lib.hid (show Is.legal ⟨op, rd, rs1, rs2, imm⟩ = true by rw [HL.out]; simp [hs, h1, h2, h3])
                  clear HL HE
                  go_wp2_with (go_at_call 279; first | ((with_reducible refine (r1.out _).mono ?_); rintro e w' ⟨rfl, rfl⟩) | ((with_reducible refine (r2.out _).mono ?_); rintro e w' ⟨rfl, rfl⟩) | ((with_reducible refine (r3.out _).mono ?_); rintro e w' ⟨rfl, rfl⟩))
                  go_ret
                  exact ⟨ret_bool HR.out.symm, (HB.out.alloc HB.out.size _)⟩
                · have g3 : (m2 == 0) = false := by simp [h3]
                  have HR := Lib.hid (show Is.legal ⟨op, rd, rs1, rs2, imm⟩ = false by rw [HL.out]; simp [hs, h1, h2, h3])
                  clear HL HE
                  go_wp2_with (go_at_call 279; first | ((with_reducible refine (r1.out _).mono ?_); rintro e w' ⟨rfl, rfl⟩) | ((with_reducible refine (r2.out _).mono ?_); rintro e w' ⟨rfl, rfl⟩) | ((with_reducible refine (r3.out _).mono ?_); rintro e w' ⟨rfl, rfl⟩))
                  go_ret
                  exact ⟨ret_bool HR.out.symm, (HB.out.alloc HB.out.size _)⟩
            · have HR := Lib.hid (show Is.legal ⟨op, rd, rs1, rs2, imm⟩ = false by rw [HL.out]; simp [h2])
              clear HL HE
              go_wp2_with (go_at_call 279; first | ((with_reducible refine (r1.out _).mono ?_); rintro e w' ⟨rfl, rfl⟩) | ((with_reducible refine (r2.out _).mono ?_); rintro e w' ⟨rfl, rfl⟩) | ((with_reducible refine (r3.out _).mono ?_); rintro e w' ⟨rfl, rfl⟩))
              go_ret
              exact ⟨ret_bool HR.out.symm, (HB.out.alloc HB.out.size _)⟩
          · have HR := Lib.hid (show Is.legal ⟨op, rd, rs1, rs2, imm⟩ = false by rw [HL.out]; simp [h1])
            clear HL HE
            go_wp2_with (go_at_call 279; first | ((with_reducible refine (r1.out _).mono ?_); rintro e w' ⟨rfl, rfl⟩) | ((with_reducible refine (r2.out _).mono ?_); rintro e w' ⟨rfl, rfl⟩) | ((with_reducible refine (r3.out _).mono ?_); rintro e w' ⟨rfl, rfl⟩))
            go_ret
            exact ⟨ret_bool HR.out.symm, (HB.out.alloc HB.out.size _)⟩
  · have HR := Lib.hid (show Is.legal ⟨op, rd, rs1, rs2, imm⟩ = false by rw [HL.out]; simp [hs])
    clear HL HE
    go_wp2_with (go_at_call 279; first | ((with_reducible refine (r1.out _).mono ?_); rintro e w' ⟨rfl, rfl⟩) | ((with_reducible refine (r2.out _).mono ?_); rintro e w' ⟨rfl, rfl⟩) | ((with_reducible refine (r3.out _).mono ?_); rintro e w' ⟨rfl, rfl⟩))
    go_ret
    exact ⟨ret_bool HR.out.symm, (HB.out.alloc HB.out.size _)⟩
end Go.Proofs.YtfafdkbnmfpbmaaGreatDoor
