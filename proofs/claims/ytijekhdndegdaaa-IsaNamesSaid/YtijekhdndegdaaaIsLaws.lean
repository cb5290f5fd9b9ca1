/- What must be known; the walk of the law IsaApart. -/
import Derived.Test.YtijekhdndegdaaaIsFwd
import Derived.Laws.StructEq
namespace Go.Proofs.Ytijekhdndegdaaa
open Go.RowKit
set_option linter.unusedVariables false
set_option linter.unusedSimpArgs false

theorem inum_any (n : Int) (w : World) : Calls Try.prog 53 #[.int .i64 n] w fun e w' => e = .returned (.int .i64 n) ∧ w = w' := by
  go_enter Try.func53, Try.ntmps53
  go_wp2
  go_ret
  exact ⟨rfl, rfl⟩
theorem iown_any (i : Is.Inst) (w : World) : Calls Try.prog 51 #[i.v] w fun e w' => e = .returned i.v ∧ Below w.heap.size w w' := by
  go_enter Try.func51, Try.ntmps51
  go_wp2
  exact bodyPost_ret (v := i.v) (by simp [results, Try.results51, go_sem]) rfl ⟨rfl, ((Below.refl _ _).alloc (Nat.le_refl _) _).alloc (by simp) _⟩
theorem iref_any (i : Is.Inst) (w : World) : Calls Try.prog 59 #[i.v] w fun e w' => e = .returned i.v ∧ Below w.heap.size w w' := by
  go_enter Try.func59, Try.ntmps59
  go_wp2
  exact bodyPost_ret (v := i.v) (by simp [results, Try.results59, go_sem]) rfl ⟨rfl, ((Below.refl _ _).alloc (Nat.le_refl _) _).alloc (by simp) _⟩
theorem oinst_eql (i j : Is.Inst) (w : World) : (binOp .eql 73 i.v j.v).run Try.prog w = .ok (.bool (decide (i = j))) w := by
  have hS : Try.prog.underlying 73 = some (.struct (Try.prog.fieldsOf 73)) := by kernel_rfl
  have hP : Try.prog.stoodInHeld 73 = false := by kernel_rfl
  have u3 := Try.underlying3
  rw [run_eql_struct, show (10000 : Nat) = 9999 + 1 from rfl, run_equalIn_agg w 9999 73 _ _ hS hP]
  simp only [Program.fieldsOf, Try.underlying73]
  obtain ⟨a, b, c, d, e⟩ := i
  obtain ⟨a', b', c', d', e'⟩ := j
  go_simp
  by_cases h1 : a = a' <;> by_cases h2 : b = b' <;> by_cases h3 : c = c' <;> by_cases h4 : d = d' <;> by_cases h5 : e = e' <;> simp [h1, h2, h3, h4, h5]
theorem rinst_eql (i j : Is.Inst) (w : World) : (binOp .eql 71 i.v j.v).run Try.prog w = .ok (.bool (decide (i = j))) w := by
  have hS : Try.prog.underlying 71 = some (.struct (Try.prog.fieldsOf 71)) := by kernel_rfl
  have hP : Try.prog.stoodInHeld 71 = false := by kernel_rfl
  have u3 := Try.underlying3
  rw [run_eql_struct, show (10000 : Nat) = 9999 + 1 from rfl, run_equalIn_agg w 9999 71 _ _ hS hP]
  simp only [Program.fieldsOf, Try.underlying71]
  obtain ⟨a, b, c, d, e⟩ := i
  obtain ⟨a', b', c', d', e'⟩ := j
  go_simp
  by_cases h1 : a = a' <;> by_cases h2 : b = b' <;> by_cases h3 : c = c' <;> by_cases h4 : d = d' <;> by_cases h5 : e = e' <;> simp [h1, h2, h3, h4, h5]

theorem Is.addi_ok : (⟨18, 1, 2, 0, -1⟩ : Is.Inst).ok := ⟨by decide, by decide, by decide, by decide, by decide⟩
theorem Is.addi_good : Is.Good 18 1 2 0 (-1) := ⟨by decide, by decide, by decide, by decide, by decide, by decide, fun h => absurd h (by decide), fun h => absurd h (by decide), fun h => absurd h (by decide), fun _ => rfl⟩
theorem Is.addi_enc : Is.enc ⟨18, 1, 2, 0, -1⟩ = (4293984403, 0) := by
  have h := Is.enc_word Is.addi_good
  exact h.trans (by decide)
theorem Is.addi_dec : Is.dec 4293984403 = (⟨18, 1, 2, 0, -1⟩, 0) := by
  have h := (Is.back Is.addi_good).1
  rw [show Is.word 18 1 2 0 (-1) = 4293984403 by decide] at h
  exact h
set_option maxHeartbeats 2000000 in
theorem iknows_any (w : World) : Calls Try.prog 56 #[] w fun e w' => e = .returned (.bool true) ∧ Below w.heap.size w w' := by
  have c1 := Lib.hid (fun W => enc_own ⟨18, 1, 2, 0, -1⟩ W Is.addi_ok)
  have c2 := Lib.hid (fun W => dec_own 4293984403 W (by omega))
  have c3 := Lib.hid (fun W => name_own 47 W)
  rw [Is.addi_enc] at c1
  rw [Is.addi_dec] at c2
  rw [show Is.nameOf 47 = ⟨#[114, 101, 109, 117]⟩ from rfl] at c3
  have hq := fun W => oinst_eql ⟨18, 1, 2, 0, -1⟩ ⟨18, 1, 2, 0, -1⟩ W
  rw [show decide ((⟨18, 1, 2, 0, -1⟩ : Is.Inst) = ⟨18, 1, 2, 0, -1⟩) = true by simp] at hq
  go_enter Try.func56, Try.ntmps56
  go_wp2_with fail
  refine (c1.out _).mono ?_
  rintro e w1 ⟨rfl, hb1⟩
  go_wp2_with fail
  refine (c2.out _).mono ?_
  rintro e w2 ⟨rfl, hb2⟩
  have HB2 := Lib.hid (hb1.trans (hb2.mono hb1.size))
  clear hb1 hb2
  go_wp2_with (first | (go_at_call 53; refine (inum_any _ _).mono ?_; rintro e w' ⟨rfl, rfl⟩) | (go_at_call 62; refine (c3.out _).mono ?_; rintro e w3 ⟨rfl, hb3⟩))
  go_ret
  exact ⟨rfl, (HB2.out.alloc HB2.out.size _).trans (hb3.mono (by have := HB2.out.size; simp; omega))⟩

/-- Unlike legal records have unlike words. -/
theorem Is.apart (i j : Is.Inst) (hi : (Is.enc i).2 = 0) (hj : (Is.enc j).2 = 0) : decide ((Is.enc i).1 = (Is.enc j).1) = decide (i = j) := by
  have li : Is.legal i = true := by
    cases h : Is.legal i
    · rw [Is.enc, if_neg (by simp [h])] at hi; cases hi
    · rfl
  have lj : Is.legal j = true := by
    cases h : Is.legal j
    · rw [Is.enc, if_neg (by simp [h])] at hj; cases hj
    · rfl
  obtain ⟨n, rd, rs1, rs2, ei, gi⟩ := Is.legal_good li
  obtain ⟨n', rd', rs1', rs2', ej, gj⟩ := Is.legal_good lj
  rw [decide_eq_decide]
  constructor
  · intro h
    rw [ei, ej, Is.enc_word gi, Is.enc_word gj] at h
    have h' : Is.word n rd rs1 rs2 i.imm = Is.word n' rd' rs1' rs2' j.imm := Int.natCast_inj.1 h
    have k1 := (Is.back gi).1
    rw [h', (Is.back gj).1] at k1
    rw [ei, ej]
    exact ((Prod.mk.injEq ..).mp k1).1.symm
  · rintro rfl; rfl

set_option maxHeartbeats 4000000 in
theorem core_isaApart (i j : Is.Inst) (w : World) (oi : i.ok) (oj : j.ok) : Calls Try.prog 15 #[i.v, j.v] w fun e w' => e = .returned (.bool true) ∧ Below w.heap.size w w' := by
  have HP := Lib.hid (Is.apart i j)
  have c1 := Lib.hid (fun W => enc_own i W oi)
  have c2 := Lib.hid (fun W => enc_own j W oj)
  have o1 := Lib.hid (fun W => iown_any i W)
  have o2 := Lib.hid (fun W => iown_any j W)
  generalize Is.enc i = E1 at *
  generalize Is.enc j = E2 at *
  obtain ⟨X1, e1⟩ := E1
  obtain ⟨X2, e2⟩ := E2
  dsimp only at HP c1 c2
  have HQ := Lib.hid (fun W => rinst_eql i j W)
  obtain ⟨a, b, c, d, e⟩ := i
  obtain ⟨a', b', c', d', e'⟩ := j
  generalize hdd : decide ((⟨a, b, c, d, e⟩ : Is.Inst) = ⟨a', b', c', d', e'⟩) = DD at *
  clear hdd oi oj
  have H2 := Lib.hid (show ∀ W', Below (w.heap.size + 2) ((w.alloc (.cells #[.int .i64 a, .int .i64 b, .int .i64 c, .int .i64 d, .int .i64 e] 71)).alloc (.cells #[.int .i64 a', .int .i64 b', .int .i64 c', .int .i64 d', .int .i64 e'] 71)) W' →
      (W'.cell? ⟨w.heap.size, 0, none⟩ = some (.int .i64 a) ∧ W'.cell? ⟨w.heap.size, 1, none⟩ = some (.int .i64 b) ∧ W'.cell? ⟨w.heap.size, 2, none⟩ = some (.int .i64 c) ∧ W'.cell? ⟨w.heap.size, 3, none⟩ = some (.int .i64 d) ∧ W'.cell? ⟨w.heap.size, 4, none⟩ = some (.int .i64 e)) ∧
      (W'.cell? ⟨w.heap.size + 1, 0, none⟩ = some (.int .i64 a') ∧ W'.cell? ⟨w.heap.size + 1, 1, none⟩ = some (.int .i64 b') ∧ W'.cell? ⟨w.heap.size + 1, 2, none⟩ = some (.int .i64 c') ∧ W'.cell? ⟨w.heap.size + 1, 3, none⟩ = some (.int .i64 d') ∧ W'.cell? ⟨w.heap.size + 1, 4, none⟩ = some (.int .i64 e')) from fun W' hb =>
    ⟨⟨(hb.cell (p := ⟨w.heap.size, 0, none⟩) (by simp; try omega)).trans (by go_simp), (hb.cell (p := ⟨w.heap.size, 1, none⟩) (by simp; try omega)).trans (by go_simp), (hb.cell (p := ⟨w.heap.size, 2, none⟩) (by simp; try omega)).trans (by go_simp), (hb.cell (p := ⟨w.heap.size, 3, none⟩) (by simp; try omega)).trans (by go_simp), (hb.cell (p := ⟨w.heap.size, 4, none⟩) (by simp; try omega)).trans (by go_simp)⟩,
      ⟨(hb.cell (p := ⟨w.heap.size + 1, 0, none⟩) (by simp; try omega)).trans (by go_simp), (hb.cell (p := ⟨w.heap.size + 1, 1, none⟩) (by simp; try omega)).trans (by go_simp), (hb.cell (p := ⟨w.heap.size + 1, 2, none⟩) (by simp; try omega)).trans (by go_simp), (hb.cell (p := ⟨w.heap.size + 1, 3, none⟩) (by simp; try omega)).trans (by go_simp), (hb.cell (p := ⟨w.heap.size + 1, 4, none⟩) (by simp; try omega)).trans (by go_simp)⟩⟩)
  go_enter Try.func15, Try.ntmps15
  go_wp2_with fail
  refine (o1.out _).mono ?_
  rintro e1' w1 ⟨rfl, hb1⟩
  simp only [World.size_alloc] at hb1
  go_wp2_with fail
  refine (c1.out _).mono ?_
  rintro e1' w2 ⟨rfl, hb2⟩
  have HB2 := Lib.hid (hb1.trans (hb2.mono (by have := hb1.size; simp at this; omega)))
  clear hb1 hb2
  obtain ⟨⟨q0, q1, q2, q3, q4⟩, p0, p1, p2, p3, p4⟩ := H2.out _ HB2.out
  go_wp2_with fail
  refine (o2.out _).mono ?_
  rintro e1' w3 ⟨rfl, hb3⟩
  clear q0 q1 q2 q3 q4 p0 p1 p2 p3 p4
  go_wp2_with fail
  refine (c2.out _).mono ?_
  rintro e1' w4 ⟨rfl, hb4⟩
  have z2 : w.heap.size + 2 ≤ w2.heap.size := by have := HB2.out.size; simpa using this
  have HB4 := Lib.hid (HB2.out.trans ((hb3.trans (hb4.mono hb3.size)).mono z2))
  clear hb3 hb4
  obtain ⟨⟨q0, q1, q2, q3, q4⟩, p0, p1, p2, p3, p4⟩ := H2.out _ HB4.out
  have HBw := Lib.hid (show Below w.heap.size w w4 from ((((Below.refl _ _).alloc (Nat.le_refl _) _).alloc (by simp) _).trans (HB4.out.mono (by omega))))
  by_cases k1 : e1 = 0
  · by_cases k2 : e2 = 0
    · have HD := HP.out k1 k2
      subst k1 k2
      have hqq := HQ.out
      have hx : (X1 == X2) = DD := HD
      go_wp2_with (first | (go_at_call 53; refine (inum_any _ _).mono ?_; rintro e w' ⟨rfl, rfl⟩) | (go_at_call 56; refine (iknows_any _).mono ?_; rintro e w5 ⟨rfl, hb5⟩))
      go_ret
      exact ⟨rfl, HBw.out.trans (hb5.mono HBw.out.size)⟩
    · have g1 : (e2 != 0) = true := by simpa using k2
      subst k1
      go_wp2_with (first | (go_at_call 53; refine (inum_any _ _).mono ?_; rintro e w' ⟨rfl, rfl⟩) | (go_at_call 56; refine (iknows_any _).mono ?_; rintro e w5 ⟨rfl, hb5⟩))
      go_ret
      exact ⟨rfl, HBw.out.trans (hb5.mono HBw.out.size)⟩
  · have g1 : (e1 != 0) = true := by simpa using k1
    go_wp2_with (first | (go_at_call 53; refine (inum_any _ _).mono ?_; rintro e w' ⟨rfl, rfl⟩) | (go_at_call 56; refine (iknows_any _).mono ?_; rintro e w5 ⟨rfl, hb5⟩))
    go_ret
    exact ⟨rfl, HBw.out.trans (hb5.mono HBw.out.size)⟩
end Go.Proofs.Ytijekhdndegdaaa
