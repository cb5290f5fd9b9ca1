/- The walk of the law IsaBits. -/
import Derived.Test.YtijekhdndegdaaaIsBackL
import Derived.Test.YtijekhdndegdaaaIsRefLegal
import Derived.BigQuiet
namespace Go.Proofs.Ytijekhdndegdaaa
open Go.RowKit
set_option linter.unusedVariables false
set_option linter.unusedSimpArgs false

theorem isDrewN {B : Nat} {a w : World} (h : Below B a w) (n : Nat) : Below B a (w.drewN n) := ⟨h.os, h.tape, h.output, h.size, h.block⟩
theorem Is.enc_legal {i : Is.Inst} (h : (Is.enc i).2 = 0) : Is.legal i = true := by
  cases hl : Is.legal i
  · rw [Is.enc, if_neg (by simp [hl])] at h; cases h
  · rfl
theorem Is.legal_enc {i : Is.Inst} (h : Is.legal i = true) : (Is.enc i).2 = 0 := by rw [Is.enc, if_pos h]
/-- Another record of the same Op: unlike words, the same opcode. -/
theorem Is.bits_law (i j : Is.Inst) (li : Is.legal i = true) (hj : (Is.enc j).2 = 0) (hop : j.op = i.op) :
    ∃ x y : Nat, (Is.enc i).1 = (x : Int) ∧ (Is.enc j).1 = (y : Int) ∧ x < 4294967296 ∧ y < 4294967296 ∧ (decide ((y : Int) = (x : Int)) = decide (j = i)) ∧ y % 128 = x % 128 := by
  have lj := Is.enc_legal hj
  have ha := Is.apart j i hj (Is.legal_enc li)
  obtain ⟨n, rd, rs1, rs2, ei, gi⟩ := Is.legal_good li
  obtain ⟨n', rd', rs1', rs2', ej, gj⟩ := Is.legal_good lj
  have hn : n' = n := by rw [ei, ej] at hop; exact Int.natCast_inj.1 hop
  subst hn
  obtain ⟨_, b1, c1⟩ := Is.back gi
  obtain ⟨_, b2, c2⟩ := Is.back gj
  have e1 : (Is.enc i).1 = ((Is.word n' rd rs1 rs2 i.imm : Nat) : Int) := by
    conv => lhs; rw [ei]
    rw [Is.enc_word gi]
  have e2 : (Is.enc j).1 = ((Is.word n' rd' rs1' rs2' j.imm : Nat) : Int) := by
    conv => lhs; rw [ej]
    rw [Is.enc_word gj]
  refine ⟨_, _, e1, e2, b1, b2, ?_, by rw [c1, c2]⟩
  rw [e1, e2] at ha
  exact ha
/-- What the walk is told of another record. -/
structure Is.Other (i j : Is.Inst) (x : Nat) : Prop where
  enc : ∀ W, Calls Try.prog 50 #[j.v] W fun e w' => e = .returned (.tuple #[.int .u32 (Is.enc j).1, .int .i64 (Is.enc j).2]) ∧ Below W.heap.size W w'
  law : (Is.enc j).2 = 0 → ∃ y : Nat, (Is.enc j).1 = (y : Int) ∧ y < 4294967296 ∧ (decide ((y : Int) = (x : Int)) = decide (j = i)) ∧ y % 128 = x % 128

theorem bits_no (i : Is.Inst) (r m : Int) (w : World) (h : Is.legal i = false) : Calls Try.prog 16 #[i.v, .int .i64 r, .int .i64 m] w fun e w' => e = .returned (.bool true) ∧ Below w.heap.size w w' := by
  have c0 := Lib.hid (fun W => legal_ref i W)
  rw [h] at c0
  obtain ⟨a, b, c, d, e⟩ := i
  clear h
  go_enter Try.func16, Try.ntmps16
  go_wp2_with fail
  refine (c0.out _).mono ?_
  rintro e1' w1 ⟨rfl, hb1⟩
  go_wp2_with (go_at_call 56; refine (iknows_any _).mono ?_; rintro e1' w8 ⟨rfl, hb8⟩)
  go_ret
  have h1 := ((Below.refl w.heap.size w).alloc (Nat.le_refl _) _).trans (hb1.mono (by simp))
  exact ⟨rfl, h1.trans (hb8.mono h1.size)⟩

set_option maxHeartbeats 8000000 in
set_option maxRecDepth 100000 in
theorem bits_yes (i : Is.Inst) (r m : Int) (w : World) (oi : i.ok) (hr : Is.in64 r) (hm : Is.in64 m) (h : Is.legal i = true) : Calls Try.prog 16 #[i.v, .int .i64 r, .int .i64 m] w fun e w' => e = .returned (.bool true) ∧ Below w.heap.size w w' := by
  have c0 := Lib.hid (fun W => legal_ref i W)
  rw [h] at c0
  have o1 := Lib.hid (fun j W => iown_any j W)
  have c1 := Lib.hid (fun W => enc_own i W oi)
  rw [Is.legal_enc h] at c1
  obtain ⟨x, hx⟩ : ∃ x : Nat, (Is.enc i).1 = (x : Int) := by
    obtain ⟨x, y, h1, _⟩ := Is.bits_law i i h (Is.legal_enc h) rfl
    exact ⟨x, h1⟩
  have mk : ∀ j : Is.Inst, j.ok → j.op = i.op → Is.Other i j x := fun j oj hop =>
    ⟨fun W => enc_own j W oj, fun h0 => by
      obtain ⟨x', y, h1, h2, _, h4, h5, h6⟩ := Is.bits_law i j h h0 hop
      obtain rfl : x' = x := by rw [hx] at h1; exact (Int.natCast_inj.1 h1).symm
      exact ⟨y, h2, h4, h5, h6⟩⟩
  rw [hx] at c1
  have HQ := Lib.hid (fun (j : Is.Inst) W => rinst_eql j i W)
  obtain ⟨a, b, c, d, e⟩ := i
  have HM := Lib.hid (show ∀ k, k < 4 → Is.Other ⟨a, b, c, d, e⟩ (([⟨a, r, c, d, e⟩, ⟨a, b, r, d, e⟩, ⟨a, b, c, r, e⟩, ⟨a, b, c, d, m⟩] : List Is.Inst).getD k ⟨0, 0, 0, 0, 0⟩) x from fun k hk => by
    have hk' : k = 0 ∨ k = 1 ∨ k = 2 ∨ k = 3 := by omega
    rcases hk' with rfl | rfl | rfl | rfl
    · exact mk ⟨a, r, c, d, e⟩ ⟨oi.op, hr, oi.rs1, oi.rs2, oi.imm⟩ rfl
    · exact mk ⟨a, b, r, d, e⟩ ⟨oi.op, oi.rd, hr, oi.rs2, oi.imm⟩ rfl
    · exact mk ⟨a, b, c, r, e⟩ ⟨oi.op, oi.rd, oi.rs1, hr, oi.imm⟩ rfl
    · exact mk ⟨a, b, c, d, m⟩ ⟨oi.op, oi.rd, oi.rs1, oi.rs2, hm⟩ rfl)
  clear mk hx h oi hr hm
  have H2 := Lib.hid (show ∀ W', Below (w.heap.size + 1) (w.alloc (.cells #[.int .i64 a, .int .i64 b, .int .i64 c, .int .i64 d, .int .i64 e] 71)) W' → W'.cell? ⟨w.heap.size, 0, none⟩ = some (.int .i64 a) ∧ W'.cell? ⟨w.heap.size, 1, none⟩ = some (.int .i64 b) ∧ W'.cell? ⟨w.heap.size, 2, none⟩ = some (.int .i64 c) ∧ W'.cell? ⟨w.heap.size, 3, none⟩ = some (.int .i64 d) ∧ W'.cell? ⟨w.heap.size, 4, none⟩ = some (.int .i64 e) from fun W' hb => ⟨(hb.cell (p := ⟨w.heap.size, 0, none⟩) (by simp; try omega)).trans (by go_simp), (hb.cell (p := ⟨w.heap.size, 1, none⟩) (by simp; try omega)).trans (by go_simp), (hb.cell (p := ⟨w.heap.size, 2, none⟩) (by simp; try omega)).trans (by go_simp), (hb.cell (p := ⟨w.heap.size, 3, none⟩) (by simp; try omega)).trans (by go_simp), (hb.cell (p := ⟨w.heap.size, 4, none⟩) (by simp; try omega)).trans (by go_simp)⟩)
  go_enter Try.func16, Try.ntmps16
  go_wp2_with fail
  refine (c0.out _).mono ?_
  rintro e1' w1 ⟨rfl, hb1⟩
  simp only [World.size_alloc] at hb1
  have HB1 := Lib.hid hb1
  have z1 : w.heap.size + 1 ≤ w1.heap.size := by have := hb1.size; simpa using this
  clear hb1
  obtain ⟨q0, q1, q2, q3, q4⟩ := H2.out _ HB1.out
  go_wp2_with fail
  refine (o1.out ⟨a, b, c, d, e⟩ _).mono ?_
  rintro e1' w2 ⟨rfl, hb2⟩
  clear q0 q1 q2 q3 q4
  have HB2 := Lib.hid (HB1.out.trans (hb2.mono z1))
  clear hb2
  have z2 : w.heap.size + 1 ≤ w2.heap.size := by have := HB2.out.size; simpa using this
  go_wp2_with fail
  refine (c1.out _).mono ?_
  rintro e1' w3 ⟨rfl, hb3⟩
  have HB3 := Lib.hid (HB2.out.trans (hb3.mono z2))
  clear hb3
  have z3 : w.heap.size + 1 ≤ w3.heap.size := by have := HB3.out.size; simpa using this
  obtain ⟨q0, q1, q2, q3, q4⟩ := H2.out _ HB3.out
  go_wp2_with fail
  clear q0 q1 q2 q3 q4
  have HF := Lib.hid (show ∀ W', Below (w3.heap.size + 1) (w3.alloc (.cells #[.int .i64 a, .int .i64 r, .int .i64 c, .int .i64 d, .int .i64 e, .int .i64 a, .int .i64 b, .int .i64 r, .int .i64 d, .int .i64 e, .int .i64 a, .int .i64 b, .int .i64 c, .int .i64 r, .int .i64 e, .int .i64 a, .int .i64 b, .int .i64 c, .int .i64 d, .int .i64 m] 71)) W' → (W'.cell? ⟨w.heap.size, 0, none⟩ = some (.int .i64 a) ∧ W'.cell? ⟨w.heap.size, 1, none⟩ = some (.int .i64 b) ∧ W'.cell? ⟨w.heap.size, 2, none⟩ = some (.int .i64 c) ∧ W'.cell? ⟨w.heap.size, 3, none⟩ = some (.int .i64 d) ∧ W'.cell? ⟨w.heap.size, 4, none⟩ = some (.int .i64 e)) ∧ ∀ k, k < 4 → (W'.cell? ⟨w3.heap.size, k * 5, none⟩ = some (.int .i64 (([⟨a, r, c, d, e⟩, ⟨a, b, r, d, e⟩, ⟨a, b, c, r, e⟩, ⟨a, b, c, d, m⟩] : List Is.Inst).getD k ⟨0, 0, 0, 0, 0⟩).op) ∧ W'.cell? ⟨w3.heap.size, k * 5 + 1, none⟩ = some (.int .i64 (([⟨a, r, c, d, e⟩, ⟨a, b, r, d, e⟩, ⟨a, b, c, r, e⟩, ⟨a, b, c, d, m⟩] : List Is.Inst).getD k ⟨0, 0, 0, 0, 0⟩).rd) ∧ W'.cell? ⟨w3.heap.size, k * 5 + 2, none⟩ = some (.int .i64 (([⟨a, r, c, d, e⟩, ⟨a, b, r, d, e⟩, ⟨a, b, c, r, e⟩, ⟨a, b, c, d, m⟩] : List Is.Inst).getD k ⟨0, 0, 0, 0, 0⟩).rs1) ∧ W'.cell? ⟨w3.heap.size, k * 5 + 3, none⟩ = some (.int .i64 (([⟨a, r, c, d, e⟩, ⟨a, b, r, d, e⟩, ⟨a, b, c, r, e⟩, ⟨a, b, c, d, m⟩] : List Is.Inst).getD k ⟨0, 0, 0, 0, 0⟩).rs2) ∧ W'.cell? ⟨w3.heap.size, k * 5 + 4, none⟩ = some (.int .i64 (([⟨a, r, c, d, e⟩, ⟨a, b, r, d, e⟩, ⟨a, b, c, r, e⟩, ⟨a, b, c, d, m⟩] : List Is.Inst).getD k ⟨0, 0, 0, 0, 0⟩).imm)) from fun W' hb =>
    ⟨H2.out _ (HB3.out.trans ((((Below.refl w3.heap.size w3).alloc (Nat.le_refl _) _).trans (hb.mono (by omega))).mono z3)), fun k hk => by
      have hk' : k = 0 ∨ k = 1 ∨ k = 2 ∨ k = 3 := by omega
      rcases hk' with rfl | rfl | rfl | rfl
      · exact ⟨(hb.cell (p := ⟨w3.heap.size, 0, none⟩) (by simp)).trans (by go_simp), (hb.cell (p := ⟨w3.heap.size, 1, none⟩) (by simp)).trans (by go_simp), (hb.cell (p := ⟨w3.heap.size, 2, none⟩) (by simp)).trans (by go_simp), (hb.cell (p := ⟨w3.heap.size, 3, none⟩) (by simp)).trans (by go_simp), (hb.cell (p := ⟨w3.heap.size, 4, none⟩) (by simp)).trans (by go_simp)⟩
      · exact ⟨(hb.cell (p := ⟨w3.heap.size, 5, none⟩) (by simp)).trans (by go_simp), (hb.cell (p := ⟨w3.heap.size, 6, none⟩) (by simp)).trans (by go_simp), (hb.cell (p := ⟨w3.heap.size, 7, none⟩) (by simp)).trans (by go_simp), (hb.cell (p := ⟨w3.heap.size, 8, none⟩) (by simp)).trans (by go_simp), (hb.cell (p := ⟨w3.heap.size, 9, none⟩) (by simp)).trans (by go_simp)⟩
      · exact ⟨(hb.cell (p := ⟨w3.heap.size, 10, none⟩) (by simp)).trans (by go_simp), (hb.cell (p := ⟨w3.heap.size, 11, none⟩) (by simp)).trans (by go_simp), (hb.cell (p := ⟨w3.heap.size, 12, none⟩) (by simp)).trans (by go_simp), (hb.cell (p := ⟨w3.heap.size, 13, none⟩) (by simp)).trans (by go_simp), (hb.cell (p := ⟨w3.heap.size, 14, none⟩) (by simp)).trans (by go_simp)⟩
      · exact ⟨(hb.cell (p := ⟨w3.heap.size, 15, none⟩) (by simp)).trans (by go_simp), (hb.cell (p := ⟨w3.heap.size, 16, none⟩) (by simp)).trans (by go_simp), (hb.cell (p := ⟨w3.heap.size, 17, none⟩) (by simp)).trans (by go_simp), (hb.cell (p := ⟨w3.heap.size, 18, none⟩) (by simp)).trans (by go_simp), (hb.cell (p := ⟨w3.heap.size, 19, none⟩) (by simp)).trans (by go_simp)⟩⟩)
  have HBw := Lib.hid (show Below w.heap.size w (w3.alloc (.cells #[.int .i64 a, .int .i64 r, .int .i64 c, .int .i64 d, .int .i64 e, .int .i64 a, .int .i64 b, .int .i64 r, .int .i64 d, .int .i64 e, .int .i64 a, .int .i64 b, .int .i64 c, .int .i64 r, .int .i64 e, .int .i64 a, .int .i64 b, .int .i64 c, .int .i64 d, .int .i64 m] 71)) from (((Below.refl _ _).alloc (Nat.le_refl _) _).trans (HB3.out.mono (by omega))).alloc (by omega) _)
  generalize ([⟨a, r, c, d, e⟩, ⟨a, b, r, d, e⟩, ⟨a, b, c, r, e⟩, ⟨a, b, c, d, m⟩] : List Is.Inst) = js at *
  go_loopw [10] (fun i wr => ∃ k : Nat, k ≤ 4 ∧ i = .int .i64 k ∧ Below (w3.heap.size + 1) (w3.alloc (.cells #[.int .i64 a, .int .i64 r, .int .i64 c, .int .i64 d, .int .i64 e, .int .i64 a, .int .i64 b, .int .i64 r, .int .i64 d, .int .i64 e, .int .i64 a, .int .i64 b, .int .i64 c, .int .i64 r, .int .i64 e, .int .i64 a, .int .i64 b, .int .i64 c, .int .i64 d, .int .i64 m] 71)) wr) (fun i _ => 4 - (intOf i).toNat)
  case atStart => exact ⟨0, by omega, rfl, Below.refl _ _⟩
  case round =>
    obtain ⟨k, hk, rfl, hbr⟩ := hrel
    have HBr := Lib.hid hbr
    have zr : w3.heap.size + 1 ≤ wr.heap.size := by have := hbr.size; simpa using this
    clear hbr
    by_cases hlt : k < 4
    · have HO := HM.out k hlt
      obtain ⟨f0, f1, f2, f3, f4⟩ := (HF.out _ HBr.out).2 k hlt
      have HFk := Lib.hid (show ∀ W', Below (w3.heap.size + 1) (w3.alloc (.cells #[.int .i64 a, .int .i64 r, .int .i64 c, .int .i64 d, .int .i64 e, .int .i64 a, .int .i64 b, .int .i64 r, .int .i64 d, .int .i64 e, .int .i64 a, .int .i64 b, .int .i64 c, .int .i64 r, .int .i64 e, .int .i64 a, .int .i64 b, .int .i64 c, .int .i64 d, .int .i64 m] 71)) W' → (W'.cell? ⟨w.heap.size, 0, none⟩ = some (.int .i64 a) ∧ W'.cell? ⟨w.heap.size, 1, none⟩ = some (.int .i64 b) ∧ W'.cell? ⟨w.heap.size, 2, none⟩ = some (.int .i64 c) ∧ W'.cell? ⟨w.heap.size, 3, none⟩ = some (.int .i64 d) ∧ W'.cell? ⟨w.heap.size, 4, none⟩ = some (.int .i64 e)) ∧ (W'.cell? ⟨w3.heap.size, k * 5, none⟩ = some (.int .i64 (js.getD k ⟨0, 0, 0, 0, 0⟩).op) ∧ W'.cell? ⟨w3.heap.size, k * 5 + 1, none⟩ = some (.int .i64 (js.getD k ⟨0, 0, 0, 0, 0⟩).rd) ∧ W'.cell? ⟨w3.heap.size, k * 5 + 2, none⟩ = some (.int .i64 (js.getD k ⟨0, 0, 0, 0, 0⟩).rs1) ∧ W'.cell? ⟨w3.heap.size, k * 5 + 3, none⟩ = some (.int .i64 (js.getD k ⟨0, 0, 0, 0, 0⟩).rs2) ∧ W'.cell? ⟨w3.heap.size, k * 5 + 4, none⟩ = some (.int .i64 (js.getD k ⟨0, 0, 0, 0, 0⟩).imm)) from fun W' hb => ⟨(HF.out _ hb).1, (HF.out _ hb).2 k hlt⟩)
      generalize js.getD k ⟨0, 0, 0, 0, 0⟩ = j at *
      have cj := Lib.hid HO.enc
      have lj := Lib.hid HO.law
      clear HO
      have oj := Lib.hid (o1.out j)
      have hq := HQ.out j
      generalize Is.enc j = Ej at *
      obtain ⟨X, ej⟩ := Ej
      dsimp only at cj lj
      generalize hdd : decide (j = (⟨a, b, c, d, e⟩ : Is.Inst)) = DD at *
      clear hdd
      obtain ⟨ja, jb, jc, jd, je⟩ := j
      dsimp only at f0 f1 f2 f3 f4 HFk
      have hk1 : (k : Int) < 4 := by omega
      go_wp2_with fail
      refine (oj.out _).mono ?_
      rintro e1' w5 ⟨rfl, hb5⟩
      clear f0 f1 f2 f3 f4
      have HB5 := Lib.hid (HBr.out.trans (hb5.mono zr))
      clear hb5
      have z5 : w3.heap.size + 1 ≤ w5.heap.size := by have := HB5.out.size; simpa using this
      go_wp2_with fail
      refine (cj.out _).mono ?_
      rintro e1' w6 ⟨rfl, hb6⟩
      have HB6 := Lib.hid (HB5.out.trans (hb6.mono z5))
      clear hb6
      obtain ⟨⟨q0, q1, q2, q3, q4⟩, f0, f1, f2, f3, f4⟩ := HFk.out _ HB6.out
      have hd' : ∀ (W : World), ({ W with drawn := W.drawn + 1 } : World) = W.drew := fun _ => rfl
      by_cases k1 : ej = 0
      · obtain ⟨y, hX, hy, h1, h2⟩ := lj.out k1
        subst k1 hX
        have g1 : ((y : Int) == (x : Int)) = DD := h1
        have g2 : ((y : Int) % 128 != (x : Int) % 128) = false := by simp; omega
        have g3 : (y == x) = DD := by rw [← h1, Bool.eq_iff_iff]; simp; omega
        have g4 : (y % 128 != x % 128) = false := by simp; omega
        clear h1 h2
        go_wp2_with fail
        clear hd'
        cases DD
        all_goals go_quiet (first | (go_at_call 53; exact Calls.quiet_of_same ((inum_any _ _).mono fun _ _ h => ⟨h.1, h.2.symm⟩)))
        all_goals
          clear g1 g2 g3 g4 hq q0 q1 q2 q3 q4 f0 f1 f2 f3 f4
          go_wp2
          go_roundw
          case rel => exact ⟨k + 1, by omega, by go_num, isDrewN HB6.out _⟩
          case measure => simp [intOf]; omega
      · have g1 : (ej == 0) = false := by simpa using k1
        go_wp2_with fail
        clear hd'
        go_quiet (first | (go_at_call 53; exact Calls.quiet_of_same ((inum_any _ _).mono fun _ _ h => ⟨h.1, h.2.symm⟩)))
        clear g1
        go_wp2
        go_roundw
        case rel => exact ⟨k + 1, by omega, by go_num, isDrewN HB6.out _⟩
        case measure => simp [intOf]; omega
    · have hk1 : ¬ (k : Int) < 4 := by omega
      go_wp2_with (go_at_call 56; refine (iknows_any _).mono ?_; rintro e1' w8 ⟨rfl, hb8⟩)
      go_ret
      have h7 := HBw.out.trans (HBr.out.mono (by omega))
      exact ⟨rfl, h7.trans (hb8.mono h7.size)⟩
theorem core_isaBits (i : Is.Inst) (r m : Int) (w : World) (oi : i.ok) (hr : Is.in64 r) (hm : Is.in64 m) : Calls Try.prog 16 #[i.v, .int .i64 r, .int .i64 m] w fun e w' => e = .returned (.bool true) ∧ Below w.heap.size w w' := by
  cases h : Is.legal i
  · exact bits_no i r m w h
  · exact bits_yes i r m w oi hr hm h
end Go.Proofs.Ytijekhdndegdaaa
