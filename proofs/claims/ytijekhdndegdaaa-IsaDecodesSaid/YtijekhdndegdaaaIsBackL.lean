/- The walk of the law IsaBack. -/
import Derived.Test.YtijekhdndegdaaaIsLaws
import Derived.Deep.RegionHeld3
import Derived.Deep.DeepCutAuto
namespace Go.Proofs.Ytijekhdndegdaaa
open Go.RowKit
set_option linter.unusedVariables false
set_option linter.unusedSimpArgs false

theorem Is.uses_bd (s : Nat) (h : s ≤ 8) : -1048576 ≤ (Is.uses (s : Int)).least ∧ (Is.uses (s : Int)).most ≤ 1048575 := by
  have : s = 0 ∨ s = 1 ∨ s = 2 ∨ s = 3 ∨ s = 4 ∨ s = 5 ∨ s = 6 ∨ s = 7 ∨ s = 8 := by omega
  rcases this with rfl | rfl | rfl | rfl | rfl | rfl | rfl | rfl | rfl <;> decide
theorem Is.Good.ok {n rd rs1 rs2 : Nat} {imm : Int} (g : Is.Good n rd rs1 rs2 imm) : (⟨n, rd, rs1, rs2, imm⟩ : Is.Inst).ok := by
  have h1 := Is.uses_bd (Is.form n).shape (Is.form_bd n g.hn).1
  have h2 := g.least; have h3 := g.most
  have b0 := g.hn; have b1 := g.hrd; have b2 := g.hrs1; have b3 := g.hrs2
  exact ⟨by constructor <;> (show _ ≤ _; simp only; omega), by constructor <;> (show _ ≤ _; simp only; omega), by constructor <;> (show _ ≤ _; simp only; omega), by constructor <;> (show _ ≤ _; simp only; omega), by constructor <;> (show _ ≤ _; simp only; omega)⟩
theorem Is.enc_back (i : Is.Inst) (h : (Is.enc i).2 = 0) : ∃ x : Nat, (Is.enc i).1 = (x : Int) ∧ x < 4294967296 ∧ Is.dec x = (i, 0) := by
  have li : Is.legal i = true := by
    cases hl : Is.legal i
    · rw [Is.enc, if_neg (by simp [hl])] at h; cases h
    · rfl
  obtain ⟨n, rd, rs1, rs2, ei, gi⟩ := Is.legal_good li
  obtain ⟨k1, k2, _⟩ := Is.back gi
  refine ⟨Is.word n rd rs1 rs2 i.imm, ?_, k2, ?_⟩
  · conv => lhs; rw [ei]
    rw [Is.enc_word gi]
  · rw [k1]; exact congrArg (fun j => (j, (0 : Int))) ei.symm
theorem Is.round (x : Nat) (hx : x < 4294967296) : Is.dec x = (⟨0, 0, 0, 0, 0⟩, 21) ∨ ∃ j : Is.Inst, Is.dec x = (j, 0) ∧ Is.enc j = ((x : Int), 0) ∧ Is.legal j = true ∧ j.ok := by
  rcases Is.find_inv x with h | ⟨n, h, hh⟩
  · left
    rw [Is.dec, h]; rfl
  · right
    obtain ⟨rd, rs1, rs2, imm, h1, h2, h3⟩ := Is.fwd n x hx h hh
    exact ⟨_, h1, by rw [Is.enc_word h2, h3], Is.good_legal h2, h2.ok⟩
theorem oinst_neq (i : Is.Inst) (w : World) : (binOp .neq 73 i.v i.v).run Try.prog w = .ok (.bool false) w := by
  have hS : Try.prog.underlying 73 = some (.struct (Try.prog.fieldsOf 73)) := by kernel_rfl
  have hP : Try.prog.stoodInHeld 73 = false := by kernel_rfl
  have u3 := Try.underlying3
  rw [run_neq_struct, show (10000 : Nat) = 9999 + 1 from rfl, run_equalIn_agg w 9999 73 _ _ hS hP]
  simp only [Program.fieldsOf, Try.underlying73]
  obtain ⟨a, b, c, d, e⟩ := i
  go_simp

set_option maxHeartbeats 8000000 in
theorem core_isaBack (i : Is.Inst) (y : Nat) (w : World) (oi : i.ok) (hy : y < 4294967296) : Calls Try.prog 14 #[i.v, .int .u32 y] w fun e w' => e = .returned (.bool true) ∧ Below w.heap.size w w' := by
  have HP := Lib.hid (Is.enc_back i)
  have c1 := Lib.hid (fun W => enc_own i W oi)
  have o1 := Lib.hid (fun W => iown_any i W)
  have d2 := Lib.hid (fun W => dec_own y W hy)
  have HR := Lib.hid (Is.round y hy)
  generalize Is.enc i = E1 at *
  obtain ⟨X1, e1⟩ := E1
  dsimp only at HP c1
  have HQ := Lib.hid (fun W => oinst_neq i W)
  obtain ⟨a, b, c, d, e⟩ := i
  clear oi
  have H2 := Lib.hid (show ∀ W', Below (w.heap.size + 1) (w.alloc (.cells #[.int .i64 a, .int .i64 b, .int .i64 c, .int .i64 d, .int .i64 e] 71)) W' → W'.cell? ⟨w.heap.size, 0, none⟩ = some (.int .i64 a) ∧ W'.cell? ⟨w.heap.size, 1, none⟩ = some (.int .i64 b) ∧ W'.cell? ⟨w.heap.size, 2, none⟩ = some (.int .i64 c) ∧ W'.cell? ⟨w.heap.size, 3, none⟩ = some (.int .i64 d) ∧ W'.cell? ⟨w.heap.size, 4, none⟩ = some (.int .i64 e) from fun W' hb => ⟨(hb.cell (p := ⟨w.heap.size, 0, none⟩) (by simp; try omega)).trans (by go_simp), (hb.cell (p := ⟨w.heap.size, 1, none⟩) (by simp; try omega)).trans (by go_simp), (hb.cell (p := ⟨w.heap.size, 2, none⟩) (by simp; try omega)).trans (by go_simp), (hb.cell (p := ⟨w.heap.size, 3, none⟩) (by simp; try omega)).trans (by go_simp), (hb.cell (p := ⟨w.heap.size, 4, none⟩) (by simp; try omega)).trans (by go_simp)⟩)
  go_enter Try.func14, Try.ntmps14
  go_wp2_with fail
  refine (o1.out _).mono ?_
  rintro e1' w1 ⟨rfl, hb1⟩
  simp only [World.size_alloc] at hb1
  go_wp2_with fail
  refine (c1.out _).mono ?_
  rintro e1' w2 ⟨rfl, hb2⟩
  have HB2 := Lib.hid (hb1.trans (hb2.mono (by have := hb1.size; simpa using this)))
  clear hb1 hb2
  have z2 : w.heap.size + 1 ≤ w2.heap.size := by have := HB2.out.size; simpa using this
  have HBw := Lib.hid (show Below w.heap.size w w2 from ((Below.refl _ _).alloc (Nat.le_refl _) _).trans (HB2.out.mono (by omega)))
  go_wp2_with fail
  refine (inum_any _ _).mono ?_
  rintro e1' w' ⟨rfl, rfl⟩
  go_upto_if 19 with fail
  go_cut [] (fun wx => Below w.heap.size w wx)
  case first =>
    by_cases k1 : e1 = 0
    · obtain ⟨x, hX, hx, hdx⟩ := HP.out k1
      subst k1 hX
      have d1 := Lib.hid (fun W => dec_own x W hx)
      rw [hdx] at d1
      clear hdx
      go_wp2_with fail
      refine (d1.out _).mono ?_
      rintro e1' w3 ⟨rfl, hb3⟩
      have HB3 := Lib.hid (HB2.out.trans (hb3.mono z2))
      have z3 : w.heap.size + 1 ≤ w3.heap.size := by have := HB3.out.size; simpa using this
      clear hb3
      have HF := Lib.hid (show ∀ W', Below (w3.heap.size + 1) (w3.alloc (.cells #[.int .i64 a, .int .i64 b, .int .i64 c, .int .i64 d, .int .i64 e] 73)) W' → (W'.cell? ⟨w3.heap.size, 0, none⟩ = some (.int .i64 a) ∧ W'.cell? ⟨w3.heap.size, 1, none⟩ = some (.int .i64 b) ∧ W'.cell? ⟨w3.heap.size, 2, none⟩ = some (.int .i64 c) ∧ W'.cell? ⟨w3.heap.size, 3, none⟩ = some (.int .i64 d) ∧ W'.cell? ⟨w3.heap.size, 4, none⟩ = some (.int .i64 e)) ∧ (W'.cell? ⟨w.heap.size, 0, none⟩ = some (.int .i64 a) ∧ W'.cell? ⟨w.heap.size, 1, none⟩ = some (.int .i64 b) ∧ W'.cell? ⟨w.heap.size, 2, none⟩ = some (.int .i64 c) ∧ W'.cell? ⟨w.heap.size, 3, none⟩ = some (.int .i64 d) ∧ W'.cell? ⟨w.heap.size, 4, none⟩ = some (.int .i64 e)) from fun W' hb =>
        ⟨⟨(hb.cell (p := ⟨w3.heap.size, 0, none⟩) (by simp; try omega)).trans (by go_simp), (hb.cell (p := ⟨w3.heap.size, 1, none⟩) (by simp; try omega)).trans (by go_simp), (hb.cell (p := ⟨w3.heap.size, 2, none⟩) (by simp; try omega)).trans (by go_simp), (hb.cell (p := ⟨w3.heap.size, 3, none⟩) (by simp; try omega)).trans (by go_simp), (hb.cell (p := ⟨w3.heap.size, 4, none⟩) (by simp; try omega)).trans (by go_simp)⟩, H2.out _ (HB3.out.trans ((((Below.refl w3.heap.size w3).alloc (Nat.le_refl _) _).trans (hb.mono (by omega))).mono z3))⟩)
      have hqq := HQ.out
      go_wp2_with fail
      go_region_held3 (fun W' => (W'.cell? ⟨w3.heap.size, 0, none⟩ = some (.int .i64 a) ∧ W'.cell? ⟨w3.heap.size, 1, none⟩ = some (.int .i64 b) ∧ W'.cell? ⟨w3.heap.size, 2, none⟩ = some (.int .i64 c) ∧ W'.cell? ⟨w3.heap.size, 3, none⟩ = some (.int .i64 d) ∧ W'.cell? ⟨w3.heap.size, 4, none⟩ = some (.int .i64 e)) ∧ (W'.cell? ⟨w.heap.size, 0, none⟩ = some (.int .i64 a) ∧ W'.cell? ⟨w.heap.size, 1, none⟩ = some (.int .i64 b) ∧ W'.cell? ⟨w.heap.size, 2, none⟩ = some (.int .i64 c) ∧ W'.cell? ⟨w.heap.size, 3, none⟩ = some (.int .i64 d) ∧ W'.cell? ⟨w.heap.size, 4, none⟩ = some (.int .i64 e)))
        (first | with_reducible exact HF.out _ hb7 | with_reducible exact HF.out _ (Below.refl _ _).drew)
        (first
          | (go_at_call 53; refine (inum_any _ _).mono ?_; rintro e w' ⟨rfl, rfl⟩)
          | (go_at_call 51; refine (o1.out _).mono ?_; rintro e1' w7 ⟨rfl, hb7'⟩; have hb7 : Below (w3.heap.size + 1) (w3.alloc (.cells #[.int .i64 a, .int .i64 b, .int .i64 c, .int .i64 d, .int .i64 e] 73)) w7 := (Below.refl _ _).drew.trans (hb7'.mono (by simp))))
      go_wp2_with fail
      go_meet
      exact (show Below w.heap.size w (w3.alloc (.cells #[.int .i64 a, .int .i64 b, .int .i64 c, .int .i64 d, .int .i64 e] 73)) from (((Below.refl _ _).alloc (Nat.le_refl _) _).trans (HB3.out.mono (by omega))).alloc (by omega) _).trans (hb7.mono (by omega))
    · have g1 : (e1 == 0) = false := by simpa using k1
      go_wp2_with fail
      go_meet
      exact HBw.out
  case rest =>
    have HC := Lib.hid hcut
    clear hcut HBw HB2 z2 HP
    rcases HR.out with hdz | ⟨j, hdj, hej, hlj, hoj⟩
    · rw [hdz] at d2
      have hq := fun W => oinst_eql ⟨0, 0, 0, 0, 0⟩ ⟨0, 0, 0, 0, 0⟩ W
      rw [show decide ((⟨0, 0, 0, 0, 0⟩ : Is.Inst) = ⟨0, 0, 0, 0, 0⟩) = true by simp] at hq
      clear hdz HR
      go_wp2_with fail
      refine (d2.out _).mono ?_
      rintro e1' w5 ⟨rfl, hb5⟩
      have HB5 := Lib.hid (HC.out.trans (hb5.mono HC.out.size))
      clear hb5
      go_wp2_with (first | (go_at_call 53; refine (inum_any _ _).mono ?_; rintro e w' ⟨rfl, rfl⟩) | (go_at_call 56; refine (iknows_any _).mono ?_; rintro e1' w8 ⟨rfl, hb8⟩))
      go_ret
      exact ⟨rfl, (HB5.out.alloc HB5.out.size _).trans (hb8.mono (by have := HB5.out.size; simp; omega))⟩
    · rw [hdj] at d2
      have c2 := Lib.hid (fun W => enc_own j W hoj)
      have l2 := Lib.hid (fun W => legal_own j W hoj)
      rw [hej] at c2
      rw [hlj] at l2
      clear hdj hej hlj hoj HR
      obtain ⟨a', b', c', d', e'⟩ := j
      go_wp2_with fail
      refine (d2.out _).mono ?_
      rintro e1' w5 ⟨rfl, hb5⟩
      have HB5 := Lib.hid (HC.out.trans (hb5.mono HC.out.size))
      clear hb5
      go_wp2_with fail
      refine (inum_any _ _).mono ?_
      rintro e1' w' ⟨rfl, rfl⟩
      go_wp2_with fail
      refine (c2.out _).mono ?_
      rintro e1' w6 ⟨rfl, hb6⟩
      simp only [World.size_alloc] at hb6
      obtain ⟨q0, q1, q2, q3, q4⟩ : w6.cell? ⟨w5.heap.size, 0, none⟩ = some (.int .i64 a') ∧ w6.cell? ⟨w5.heap.size, 1, none⟩ = some (.int .i64 b') ∧ w6.cell? ⟨w5.heap.size, 2, none⟩ = some (.int .i64 c') ∧ w6.cell? ⟨w5.heap.size, 3, none⟩ = some (.int .i64 d') ∧ w6.cell? ⟨w5.heap.size, 4, none⟩ = some (.int .i64 e') := ⟨(hb6.cell (p := ⟨w5.heap.size, 0, none⟩) (by simp; try omega)).trans (by go_simp), (hb6.cell (p := ⟨w5.heap.size, 1, none⟩) (by simp; try omega)).trans (by go_simp), (hb6.cell (p := ⟨w5.heap.size, 2, none⟩) (by simp; try omega)).trans (by go_simp), (hb6.cell (p := ⟨w5.heap.size, 3, none⟩) (by simp; try omega)).trans (by go_simp), (hb6.cell (p := ⟨w5.heap.size, 4, none⟩) (by simp; try omega)).trans (by go_simp)⟩
      have HB6 := Lib.hid (show Below w.heap.size w w6 from (HB5.out.alloc HB5.out.size _).trans (hb6.mono (by have := HB5.out.size; omega)))
      clear hb6
      go_wp2_with (first | (go_at_call 53; refine (inum_any _ _).mono ?_; rintro e w' ⟨rfl, rfl⟩) | (go_at_call 54; refine (l2.out _).mono ?_; rintro e1' w7 ⟨rfl, hb7⟩) | (go_at_call 56; refine (iknows_any _).mono ?_; rintro e1' w8 ⟨rfl, hb8⟩))
      go_ret
      have h7 := HB6.out.trans (hb7.mono HB6.out.size)
      exact ⟨rfl, h7.trans (hb8.mono h7.size)⟩
end Go.Proofs.Ytijekhdndegdaaa
