/- Texts joined, what is not reached left out. -/
import Derived.Test.YtpcpaoeajcjoiaaGreatDoorQIsRefEnc
import Derived.Test.YtpcpaoeajcjoiaaGreatDoorMJ
import Derived.Test.YtpcpaoeajcjoiaaGreatDoorQIsRefLegal
import Derived.Deep.QuietTactic
import Derived.BigQuiet
/- The walk of the document's Encode. -/
namespace Go.Proofs.YtpcpaoeajcjoiaaGreatDoor
open Go.RowKit
set_option linter.unusedVariables false
set_option linter.unusedSimpArgs false

theorem isDrewN {B : Nat} {a w : World} (h : Below B a w) (n : Nat) : Below B a (w.drewN n) := ⟨h.os, h.tape, h.output, h.size, h.block⟩
set_option maxRecDepth 100000 in
theorem renc_bad (i : Is.Inst) (w : World) (h : Is.legal i = false) : Calls Tryz.prog 96 #[i.v] w fun e w' => e = .returned (.tuple #[.int .u32 0, .int .i64 20]) ∧ Below w.heap.size w w' := by
  have c0 := Lib.hid (fun w => legal_ref i w)
  rw [h] at c0
  obtain ⟨op, rd, rs1, rs2, imm⟩ := i
  clear h
  go_enter Tryz.func96, Tryz.ntmps96
  go_wp2_with fail
  refine (c0.out _).mono ?_
  rintro e w1 ⟨rfl, hb⟩
  go_wp2
  go_ret2
  exact ⟨rfl, ((Below.refl _ _).alloc (Nat.le_refl _) _).trans (hb.mono (by simp))⟩
theorem Is.word_of {n rd rs1 rs2 : Nat} {imm : Int} (h : (Is.form n).shape ≠ 7) (hn : n < 48) : Is.word n rd rs1 rs2 imm = Is.wordS (Is.form n).shape (Is.form n).code (Is.form n).three (Is.form n).seven rd rs1 rs2 (imm % 4294967296).toNat := by
  have h7 := (Is.form_empty n hn).2.2.1
  unfold Is.word
  rw [if_neg (fun k => h (h7.2 (.inl k))), if_neg (fun k => h (h7.2 (.inr k)))]
theorem Is.rcode_eq {n : Nat} (h : (Is.form n).shape ≠ 7) : Is.rcode n = (Is.form n).code := by
  unfold Is.rcode; rw [if_neg h]
theorem Is.bare38 : (115 : Int) + wrap64 (((38 : Nat) : Int) - 38) % 4294967296 * 1048576 % 4294967296 = ((115 : Nat) : Int) := by kernel_rfl
theorem Is.bare39 : (115 : Int) + wrap64 (((39 : Nat) : Int) - 38) % 4294967296 * 1048576 % 4294967296 = ((1048691 : Nat) : Int) := by kernel_rfl
structure RencC (n rd rs1 rs2 : Nat) (imm : Int) (c t3 t7 A : Nat) : Prop where
  code : c < 128
  three : t3 < 8
  seven : t7 < 128
  hA : imm % 4294967296 = A
  hlt : A < 4294967296
set_option maxRecDepth 100000 in
set_option maxHeartbeats 4000000 in
theorem renc_0 (n rd rs1 rs2 : Nat) (imm : Int) (w : World) (g : Is.Good n rd rs1 rs2 imm) (hs : (Is.form n).shape = 0) : Calls Tryz.prog 96 #[(⟨n, rd, rs1, rs2, imm⟩ : Is.Inst).v] w fun e w' => e = .returned (.tuple #[.int .u32 (Is.word n rd rs1 rs2 imm : Nat), .int .i64 0]) ∧ Below w.heap.size w w' := by
  have cL := Lib.hid (fun W => legal_ref ⟨n, rd, rs1, rs2, imm⟩ W)
  rw [Is.good_legal g] at cL
  have cF := Lib.hid (fun W => rfuncts_any n g.hn W)
  have cO := Lib.hid (fun W => ropcode_any n g.hn W)
  have cS := Lib.hid (fun W => shape_ref (n : Int) W)
  have cB := Lib.hid (fun (f m : Int) W => still_of' (rbits_any imm f m W))
  rw [Is.shape_form n g.hn, hs] at cS
  have hb := Is.form_bd n g.hn
  have hem := g.empty
  have HW := Lib.hid (Is.word_of (n := n) (rd := rd) (rs1 := rs1) (rs2 := rs2) (imm := imm) (by rw [hs]; decide) g.hn)
  rw [Is.rcode_eq (by rw [hs]; decide)] at cO
  rw [hs] at HW hem hb
  obtain ⟨A, hA⟩ : ∃ A : Nat, imm % 4294967296 = A := ⟨(imm % 4294967296).toNat, by omega⟩
  have hlt : A < 4294967296 := by omega
  have h1 : (rd : Int) < 32 := by have := g.hrd; omega
  have h2 : (rs1 : Int) < 32 := by have := g.hrs1; omega
  have h3 : (rs2 : Int) < 32 := by have := g.hrs2; omega
  have HG := Lib.hid g
  have HS7 := Lib.hid hs
  clear g hs
  rw [hA, Int.toNat_natCast] at cB
  rw [hA, Int.toNat_natCast] at HW
  generalize hcc : (Is.form n).code = c at *
  generalize hc3 : (Is.form n).three = t3 at *
  generalize hc7 : (Is.form n).seven = t7 at *
  have HB := Lib.hid hb
  have HE := Lib.hid hem
  have b1 : (c : Int) < 128 := by have := HB.out.2.1; omega
  have b2 : (t3 : Int) < 8 := by have := HB.out.2.2.1; omega
  have b3 : (t7 : Int) < 128 := by have := HB.out.2.2.2; omega
  clear hb hem hcc hc3 hc7
  have H2 := Lib.hid (show ∀ W', Below (w.heap.size + 1) (w.alloc (.cells #[.int .i64 n, .int .i64 rd, .int .i64 rs1, .int .i64 rs2, .int .i64 imm] 114)) W' →
      (W'.cell? ⟨w.heap.size, 0, none⟩ = some (.int .i64 n) ∧ W'.cell? ⟨w.heap.size, 1, none⟩ = some (.int .i64 rd) ∧ W'.cell? ⟨w.heap.size, 2, none⟩ = some (.int .i64 rs1) ∧ W'.cell? ⟨w.heap.size, 3, none⟩ = some (.int .i64 rs2) ∧ W'.cell? ⟨w.heap.size, 4, none⟩ = some (.int .i64 imm)) from fun W' hb =>
    ⟨(hb.cell (p := ⟨w.heap.size, 0, none⟩) (by simp; try omega)).trans (by go_simp), (hb.cell (p := ⟨w.heap.size, 1, none⟩) (by simp; try omega)).trans (by go_simp), (hb.cell (p := ⟨w.heap.size, 2, none⟩) (by simp; try omega)).trans (by go_simp), (hb.cell (p := ⟨w.heap.size, 3, none⟩) (by simp; try omega)).trans (by go_simp), (hb.cell (p := ⟨w.heap.size, 4, none⟩) (by simp; try omega)).trans (by go_simp)⟩)
  have HA := Lib.hid hA
  have HL := Lib.hid hlt
  clear hlt
  go_enter Tryz.func96, Tryz.ntmps96
  go_wp2_with fail
  refine (cL.out _).mono ?_
  rintro e w1 ⟨rfl, hb1⟩
  simp only [World.size_alloc] at hb1
  have HB1 := Lib.hid hb1
  clear hb1
  obtain ⟨q0, q1, q2, q3, q4⟩ := H2.out _ HB1.out
  go_wp2_with fail
  refine (cF.out _).mono ?_
  rintro e w2 ⟨rfl, hb2⟩
  have HB2 := Lib.hid (HB1.out.trans (hb2.mono (by have := HB1.out.size; simp at this; omega)))
  clear hb2 q0 q1 q2 q3 q4
  obtain ⟨q0, q1, q2, q3, q4⟩ := H2.out _ HB2.out
  go_wp2_with fail
  refine (cO.out _).mono ?_
  rintro e w3 ⟨rfl, hb3⟩
  have HB3 := Lib.hid (HB2.out.trans (hb3.mono (by have := HB2.out.size; simp at this; omega)))
  clear hb3 q0 q1 q2 q3 q4
  obtain ⟨q0, q1, q2, q3, q4⟩ := H2.out _ HB3.out
  have HBw := Lib.hid (show Below w.heap.size w w3 from ((Below.refl _ _).alloc (Nat.le_refl _) _).trans (HB3.out.mono (by omega)))
  go_wp2_with (go_at_call 145; refine (cS.out _).mono ?_; rintro e w' ⟨rfl, rfl⟩)
  go_ret2
  refine ⟨ret2i ?_, HBw.out⟩
  show _ = ((Is.word n rd rs1 rs2 imm : Nat) : Int)
  rw [HW.out]
  clear HB1 HB2 HB3 HBw cL cF cO cS cB H2
  obtain ⟨-, k1, k2, k3⟩ := HB.out
  have k4 := HG.out.hrd
  have k5 := HG.out.hrs1
  have k6 := HG.out.hrs2
  have k7 := HL.out
  clear hA h1 h2 h3 b1 b2 b3 HW HB HE HA HL
  have e0 : (rd : Int) * 128 = ((rd * 128 : Nat) : Int) := by omega
  have e1 : (A : Int) * 4096 % 4294967296 = ((A % 1048576 * 4096 : Nat) : Int) := by omega
  rw [e0, e1, Is.or_top _ _ 7 rd rfl (by omega) (by omega), Is.or_top _ _ 12 (A % 1048576) rfl (by omega) (by omega)]
  exact Int.natCast_inj.2 (by (simp only [Is.wordS]) <;> omega)
set_option maxRecDepth 100000 in
set_option maxHeartbeats 4000000 in
theorem renc_1 (n rd rs1 rs2 : Nat) (imm : Int) (w : World) (g : Is.Good n rd rs1 rs2 imm) (hs : (Is.form n).shape = 1) : Calls Tryz.prog 96 #[(⟨n, rd, rs1, rs2, imm⟩ : Is.Inst).v] w fun e w' => e = .returned (.tuple #[.int .u32 (Is.word n rd rs1 rs2 imm : Nat), .int .i64 0]) ∧ Below w.heap.size w w' := by
  have cL := Lib.hid (fun W => legal_ref ⟨n, rd, rs1, rs2, imm⟩ W)
  rw [Is.good_legal g] at cL
  have cF := Lib.hid (fun W => rfuncts_any n g.hn W)
  have cO := Lib.hid (fun W => ropcode_any n g.hn W)
  have cS := Lib.hid (fun W => shape_ref (n : Int) W)
  have cB := Lib.hid (fun (f m : Int) W => still_of' (rbits_any imm f m W))
  rw [Is.shape_form n g.hn, hs] at cS
  have hb := Is.form_bd n g.hn
  have hem := g.empty
  have HW := Lib.hid (Is.word_of (n := n) (rd := rd) (rs1 := rs1) (rs2 := rs2) (imm := imm) (by rw [hs]; decide) g.hn)
  rw [Is.rcode_eq (by rw [hs]; decide)] at cO
  rw [hs] at HW hem hb
  obtain ⟨A, hA⟩ : ∃ A : Nat, imm % 4294967296 = A := ⟨(imm % 4294967296).toNat, by omega⟩
  have hlt : A < 4294967296 := by omega
  have h1 : (rd : Int) < 32 := by have := g.hrd; omega
  have h2 : (rs1 : Int) < 32 := by have := g.hrs1; omega
  have h3 : (rs2 : Int) < 32 := by have := g.hrs2; omega
  have HG := Lib.hid g
  have HS7 := Lib.hid hs
  clear g hs
  rw [hA, Int.toNat_natCast] at cB
  rw [hA, Int.toNat_natCast] at HW
  generalize hcc : (Is.form n).code = c at *
  generalize hc3 : (Is.form n).three = t3 at *
  generalize hc7 : (Is.form n).seven = t7 at *
  have HB := Lib.hid hb
  have HE := Lib.hid hem
  have b1 : (c : Int) < 128 := by have := HB.out.2.1; omega
  have b2 : (t3 : Int) < 8 := by have := HB.out.2.2.1; omega
  have b3 : (t7 : Int) < 128 := by have := HB.out.2.2.2; omega
  clear hb hem hcc hc3 hc7
  have H2 := Lib.hid (show ∀ W', Below (w.heap.size + 1) (w.alloc (.cells #[.int .i64 n, .int .i64 rd, .int .i64 rs1, .int .i64 rs2, .int .i64 imm] 114)) W' →
      (W'.cell? ⟨w.heap.size, 0, none⟩ = some (.int .i64 n) ∧ W'.cell? ⟨w.heap.size, 1, none⟩ = some (.int .i64 rd) ∧ W'.cell? ⟨w.heap.size, 2, none⟩ = some (.int .i64 rs1) ∧ W'.cell? ⟨w.heap.size, 3, none⟩ = some (.int .i64 rs2) ∧ W'.cell? ⟨w.heap.size, 4, none⟩ = some (.int .i64 imm)) from fun W' hb =>
    ⟨(hb.cell (p := ⟨w.heap.size, 0, none⟩) (by simp; try omega)).trans (by go_simp), (hb.cell (p := ⟨w.heap.size, 1, none⟩) (by simp; try omega)).trans (by go_simp), (hb.cell (p := ⟨w.heap.size, 2, none⟩) (by simp; try omega)).trans (by go_simp), (hb.cell (p := ⟨w.heap.size, 3, none⟩) (by simp; try omega)).trans (by go_simp), (hb.cell (p := ⟨w.heap.size, 4, none⟩) (by simp; try omega)).trans (by go_simp)⟩)
  have HA := Lib.hid hA
  have HL := Lib.hid hlt
  clear hlt
  go_enter Tryz.func96, Tryz.ntmps96
  go_wp2_with fail
  refine (cL.out _).mono ?_
  rintro e w1 ⟨rfl, hb1⟩
  simp only [World.size_alloc] at hb1
  have HB1 := Lib.hid hb1
  clear hb1
  obtain ⟨q0, q1, q2, q3, q4⟩ := H2.out _ HB1.out
  go_wp2_with fail
  refine (cF.out _).mono ?_
  rintro e w2 ⟨rfl, hb2⟩
  have HB2 := Lib.hid (HB1.out.trans (hb2.mono (by have := HB1.out.size; simp at this; omega)))
  clear hb2 q0 q1 q2 q3 q4
  obtain ⟨q0, q1, q2, q3, q4⟩ := H2.out _ HB2.out
  go_wp2_with fail
  refine (cO.out _).mono ?_
  rintro e w3 ⟨rfl, hb3⟩
  have HB3 := Lib.hid (HB2.out.trans (hb3.mono (by have := HB2.out.size; simp at this; omega)))
  clear hb3 q0 q1 q2 q3 q4
  obtain ⟨q0, q1, q2, q3, q4⟩ := H2.out _ HB3.out
  have HBw := Lib.hid (show Below w.heap.size w w3 from ((Below.refl _ _).alloc (Nat.le_refl _) _).trans (HB3.out.mono (by omega)))
  go_wp2_with (go_at_call 145; refine (cS.out _).mono ?_; rintro e w' ⟨rfl, rfl⟩)
  go_quiet ((go_at_call 156; exact Calls.quiet_of_same (cB.out _ _ _)))
  go_wp2_with fail
  go_ret2
  refine ⟨ret2i ?_, (isDrewN HBw.out _)⟩
  show _ = ((Is.word n rd rs1 rs2 imm : Nat) : Int)
  rw [HW.out]
  clear HB1 HB2 HB3 HBw cL cF cO cS cB H2
  obtain ⟨-, k1, k2, k3⟩ := HB.out
  have k4 := HG.out.hrd
  have k5 := HG.out.hrs1
  have k6 := HG.out.hrs2
  have k7 := HL.out
  clear hA h1 h2 h3 b1 b2 b3 HW HB HE HA HL
  have e0 : (rd : Int) * 128 = ((rd * 128 : Nat) : Int) := by omega
  have e1 : Bt.fieldV A 12 8 * 4096 % 4294967296 = ((A / 4096 % 256 * 4096 : Nat) : Int) := Is.piece_val A 12 8 12 k7 (by omega) (by omega) (by omega)
  have e2 : Bt.fieldV A 11 1 * 1048576 % 4294967296 = ((A / 2048 % 2 * 1048576 : Nat) : Int) := Is.piece_val A 11 1 20 k7 (by omega) (by omega) (by omega)
  have e3 : Bt.fieldV A 1 10 * 2097152 % 4294967296 = ((A / 2 % 1024 * 2097152 : Nat) : Int) := Is.piece_val A 1 10 21 k7 (by omega) (by omega) (by omega)
  have e4 : Bt.fieldV A 20 1 * 2147483648 % 4294967296 = ((A / 1048576 % 2 * 2147483648 : Nat) : Int) := Is.piece_val A 20 1 31 k7 (by omega) (by omega) (by omega)
  rw [e0, e1, e2, e3, e4, Is.or_top _ _ 7 rd rfl (by omega) (by omega), Is.or_top _ _ 12 (A / 4096 % 256) rfl (by omega) (by omega), Is.or_top _ _ 20 (A / 2048 % 2) rfl (by omega) (by omega), Is.or_top _ _ 21 (A / 2 % 1024) rfl (by omega) (by omega), Is.or_top _ _ 31 (A / 1048576 % 2) rfl (by omega) (by omega)]
  exact Int.natCast_inj.2 (by (simp only [Is.wordS]) <;> omega)
set_option maxRecDepth 100000 in
set_option maxHeartbeats 4000000 in
theorem renc_2 (n rd rs1 rs2 : Nat) (imm : Int) (w : World) (g : Is.Good n rd rs1 rs2 imm) (hs : (Is.form n).shape = 2) : Calls Tryz.prog 96 #[(⟨n, rd, rs1, rs2, imm⟩ : Is.Inst).v] w fun e w' => e = .returned (.tuple #[.int .u32 (Is.word n rd rs1 rs2 imm : Nat), .int .i64 0]) ∧ Below w.heap.size w w' := by
  have cL := Lib.hid (fun W => legal_ref ⟨n, rd, rs1, rs2, imm⟩ W)
  rw [Is.good_legal g] at cL
  have cF := Lib.hid (fun W => rfuncts_any n g.hn W)
  have cO := Lib.hid (fun W => ropcode_any n g.hn W)
  have cS := Lib.hid (fun W => shape_ref (n : Int) W)
  have cB := Lib.hid (fun (f m : Int) W => still_of' (rbits_any imm f m W))
  rw [Is.shape_form n g.hn, hs] at cS
  have hb := Is.form_bd n g.hn
  have hem := g.empty
  have HW := Lib.hid (Is.word_of (n := n) (rd := rd) (rs1 := rs1) (rs2 := rs2) (imm := imm) (by rw [hs]; decide) g.hn)
  rw [Is.rcode_eq (by rw [hs]; decide)] at cO
  rw [hs] at HW hem hb
  obtain ⟨A, hA⟩ : ∃ A : Nat, imm % 4294967296 = A := ⟨(imm % 4294967296).toNat, by omega⟩
  have hlt : A < 4294967296 := by omega
  have h1 : (rd : Int) < 32 := by have := g.hrd; omega
  have h2 : (rs1 : Int) < 32 := by have := g.hrs1; omega
  have h3 : (rs2 : Int) < 32 := by have := g.hrs2; omega
  have HG := Lib.hid g
  have HS7 := Lib.hid hs
  clear g hs
  rw [hA, Int.toNat_natCast] at cB
  rw [hA, Int.toNat_natCast] at HW
  generalize hcc : (Is.form n).code = c at *
  generalize hc3 : (Is.form n).three = t3 at *
  generalize hc7 : (Is.form n).seven = t7 at *
  have HB := Lib.hid hb
  have HE := Lib.hid hem
  have b1 : (c : Int) < 128 := by have := HB.out.2.1; omega
  have b2 : (t3 : Int) < 8 := by have := HB.out.2.2.1; omega
  have b3 : (t7 : Int) < 128 := by have := HB.out.2.2.2; omega
  clear hb hem hcc hc3 hc7
  have H2 := Lib.hid (show ∀ W', Below (w.heap.size + 1) (w.alloc (.cells #[.int .i64 n, .int .i64 rd, .int .i64 rs1, .int .i64 rs2, .int .i64 imm] 114)) W' →
      (W'.cell? ⟨w.heap.size, 0, none⟩ = some (.int .i64 n) ∧ W'.cell? ⟨w.heap.size, 1, none⟩ = some (.int .i64 rd) ∧ W'.cell? ⟨w.heap.size, 2, none⟩ = some (.int .i64 rs1) ∧ W'.cell? ⟨w.heap.size, 3, none⟩ = some (.int .i64 rs2) ∧ W'.cell? ⟨w.heap.size, 4, none⟩ = some (.int .i64 imm)) from fun W' hb =>
    ⟨(hb.cell (p := ⟨w.heap.size, 0, none⟩) (by simp; try omega)).trans (by go_simp), (hb.cell (p := ⟨w.heap.size, 1, none⟩) (by simp; try omega)).trans (by go_simp), (hb.cell (p := ⟨w.heap.size, 2, none⟩) (by simp; try omega)).trans (by go_simp), (hb.cell (p := ⟨w.heap.size, 3, none⟩) (by simp; try omega)).trans (by go_simp), (hb.cell (p := ⟨w.heap.size, 4, none⟩) (by simp; try omega)).trans (by go_simp)⟩)
  have HA := Lib.hid hA
  have HL := Lib.hid hlt
  clear hlt
  go_enter Tryz.func96, Tryz.ntmps96
  go_wp2_with fail
  refine (cL.out _).mono ?_
  rintro e w1 ⟨rfl, hb1⟩
  simp only [World.size_alloc] at hb1
  have HB1 := Lib.hid hb1
  clear hb1
  obtain ⟨q0, q1, q2, q3, q4⟩ := H2.out _ HB1.out
  go_wp2_with fail
  refine (cF.out _).mono ?_
  rintro e w2 ⟨rfl, hb2⟩
  have HB2 := Lib.hid (HB1.out.trans (hb2.mono (by have := HB1.out.size; simp at this; omega)))
  clear hb2 q0 q1 q2 q3 q4
  obtain ⟨q0, q1, q2, q3, q4⟩ := H2.out _ HB2.out
  go_wp2_with fail
  refine (cO.out _).mono ?_
  rintro e w3 ⟨rfl, hb3⟩
  have HB3 := Lib.hid (HB2.out.trans (hb3.mono (by have := HB2.out.size; simp at this; omega)))
  clear hb3 q0 q1 q2 q3 q4
  obtain ⟨q0, q1, q2, q3, q4⟩ := H2.out _ HB3.out
  have HBw := Lib.hid (show Below w.heap.size w w3 from ((Below.refl _ _).alloc (Nat.le_refl _) _).trans (HB3.out.mono (by omega)))
  go_wp2_with (first | (go_at_call 145; refine (cS.out _).mono ?_; rintro e w' ⟨rfl, rfl⟩) | (go_at_call 156; refine (cB.out 0 12 _).mono ?_; rintro e w' ⟨rfl, rfl⟩))
  go_ret2
  refine ⟨ret2i ?_, HBw.out⟩
  show _ = ((Is.word n rd rs1 rs2 imm : Nat) : Int)
  rw [HW.out]
  clear HB1 HB2 HB3 HBw cL cF cO cS cB H2
  obtain ⟨-, k1, k2, k3⟩ := HB.out
  have k4 := HG.out.hrd
  have k5 := HG.out.hrs1
  have k6 := HG.out.hrs2
  have k7 := HL.out
  clear hA h1 h2 h3 b1 b2 b3 HW HB HE HA HL
  have e0 : (rd : Int) * 128 = ((rd * 128 : Nat) : Int) := by omega
  have e1 : (t3 : Int) * 4096 = ((t3 * 4096 : Nat) : Int) := by omega
  have e2 : (rs1 : Int) * 32768 = ((rs1 * 32768 : Nat) : Int) := by omega
  have e3 : Bt.fieldV A 0 12 * 1048576 % 4294967296 = ((A / 1 % 4096 * 1048576 : Nat) : Int) := Is.piece_val A 0 12 20 k7 (by omega) (by omega) (by omega)
  rw [e0, e1, e2, e3, Is.or_top _ _ 7 rd rfl (by omega) (by omega), Is.or_top _ _ 12 t3 rfl (by omega) (by omega), Is.or_top _ _ 15 rs1 rfl (by omega) (by omega), Is.or_top _ _ 20 (A / 1 % 4096) rfl (by omega) (by omega)]
  exact Int.natCast_inj.2 (by (simp only [Is.wordS]) <;> omega)
set_option maxRecDepth 100000 in
set_option maxHeartbeats 4000000 in
theorem renc_3 (n rd rs1 rs2 : Nat) (imm : Int) (w : World) (g : Is.Good n rd rs1 rs2 imm) (hs : (Is.form n).shape = 3) : Calls Tryz.prog 96 #[(⟨n, rd, rs1, rs2, imm⟩ : Is.Inst).v] w fun e w' => e = .returned (.tuple #[.int .u32 (Is.word n rd rs1 rs2 imm : Nat), .int .i64 0]) ∧ Below w.heap.size w w' := by
  have cL := Lib.hid (fun W => legal_ref ⟨n, rd, rs1, rs2, imm⟩ W)
  rw [Is.good_legal g] at cL
  have cF := Lib.hid (fun W => rfuncts_any n g.hn W)
  have cO := Lib.hid (fun W => ropcode_any n g.hn W)
  have cS := Lib.hid (fun W => shape_ref (n : Int) W)
  have cB := Lib.hid (fun (f m : Int) W => still_of' (rbits_any imm f m W))
  rw [Is.shape_form n g.hn, hs] at cS
  have hb := Is.form_bd n g.hn
  have hem := g.empty
  have HW := Lib.hid (Is.word_of (n := n) (rd := rd) (rs1 := rs1) (rs2 := rs2) (imm := imm) (by rw [hs]; decide) g.hn)
  rw [Is.rcode_eq (by rw [hs]; decide)] at cO
  rw [hs] at HW hem hb
  obtain ⟨A, hA⟩ : ∃ A : Nat, imm % 4294967296 = A := ⟨(imm % 4294967296).toNat, by omega⟩
  have hlt : A < 4294967296 := by omega
  have h1 : (rd : Int) < 32 := by have := g.hrd; omega
  have h2 : (rs1 : Int) < 32 := by have := g.hrs1; omega
  have h3 : (rs2 : Int) < 32 := by have := g.hrs2; omega
  have HG := Lib.hid g
  have HS7 := Lib.hid hs
  clear g hs
  rw [hA, Int.toNat_natCast] at cB
  rw [hA, Int.toNat_natCast] at HW
  generalize hcc : (Is.form n).code = c at *
  generalize hc3 : (Is.form n).three = t3 at *
  generalize hc7 : (Is.form n).seven = t7 at *
  have HB := Lib.hid hb
  have HE := Lib.hid hem
  have b1 : (c : Int) < 128 := by have := HB.out.2.1; omega
  have b2 : (t3 : Int) < 8 := by have := HB.out.2.2.1; omega
  have b3 : (t7 : Int) < 128 := by have := HB.out.2.2.2; omega
  clear hb hem hcc hc3 hc7
  have H2 := Lib.hid (show ∀ W', Below (w.heap.size + 1) (w.alloc (.cells #[.int .i64 n, .int .i64 rd, .int .i64 rs1, .int .i64 rs2, .int .i64 imm] 114)) W' →
      (W'.cell? ⟨w.heap.size, 0, none⟩ = some (.int .i64 n) ∧ W'.cell? ⟨w.heap.size, 1, none⟩ = some (.int .i64 rd) ∧ W'.cell? ⟨w.heap.size, 2, none⟩ = some (.int .i64 rs1) ∧ W'.cell? ⟨w.heap.size, 3, none⟩ = some (.int .i64 rs2) ∧ W'.cell? ⟨w.heap.size, 4, none⟩ = some (.int .i64 imm)) from fun W' hb =>
    ⟨(hb.cell (p := ⟨w.heap.size, 0, none⟩) (by simp; try omega)).trans (by go_simp), (hb.cell (p := ⟨w.heap.size, 1, none⟩) (by simp; try omega)).trans (by go_simp), (hb.cell (p := ⟨w.heap.size, 2, none⟩) (by simp; try omega)).trans (by go_simp), (hb.cell (p := ⟨w.heap.size, 3, none⟩) (by simp; try omega)).trans (by go_simp), (hb.cell (p := ⟨w.heap.size, 4, none⟩) (by simp; try omega)).trans (by go_simp)⟩)
  have HA := Lib.hid hA
  have HL := Lib.hid hlt
  clear hlt
  go_enter Tryz.func96, Tryz.ntmps96
  go_wp2_with fail
  refine (cL.out _).mono ?_
  rintro e w1 ⟨rfl, hb1⟩
  simp only [World.size_alloc] at hb1
  have HB1 := Lib.hid hb1
  clear hb1
  obtain ⟨q0, q1, q2, q3, q4⟩ := H2.out _ HB1.out
  go_wp2_with fail
  refine (cF.out _).mono ?_
  rintro e w2 ⟨rfl, hb2⟩
  have HB2 := Lib.hid (HB1.out.trans (hb2.mono (by have := HB1.out.size; simp at this; omega)))
  clear hb2 q0 q1 q2 q3 q4
  obtain ⟨q0, q1, q2, q3, q4⟩ := H2.out _ HB2.out
  go_wp2_with fail
  refine (cO.out _).mono ?_
  rintro e w3 ⟨rfl, hb3⟩
  have HB3 := Lib.hid (HB2.out.trans (hb3.mono (by have := HB2.out.size; simp at this; omega)))
  clear hb3 q0 q1 q2 q3 q4
  obtain ⟨q0, q1, q2, q3, q4⟩ := H2.out _ HB3.out
  have HBw := Lib.hid (show Below w.heap.size w w3 from ((Below.refl _ _).alloc (Nat.le_refl _) _).trans (HB3.out.mono (by omega)))
  go_wp2_with (go_at_call 145; refine (cS.out _).mono ?_; rintro e w' ⟨rfl, rfl⟩)
  go_quiet ((go_at_call 156; exact Calls.quiet_of_same (cB.out _ _ _)))
  go_wp2_with fail
  go_ret2
  refine ⟨ret2i ?_, (isDrewN HBw.out _)⟩
  show _ = ((Is.word n rd rs1 rs2 imm : Nat) : Int)
  rw [HW.out]
  clear HB1 HB2 HB3 HBw cL cF cO cS cB H2
  obtain ⟨-, k1, k2, k3⟩ := HB.out
  have k4 := HG.out.hrd
  have k5 := HG.out.hrs1
  have k6 := HG.out.hrs2
  have k7 := HL.out
  clear hA h1 h2 h3 b1 b2 b3 HW HB HE HA HL
  have e0 : Bt.fieldV A 11 1 * 128 % 4294967296 = ((A / 2048 % 2 * 128 : Nat) : Int) := Is.piece_val A 11 1 7 k7 (by omega) (by omega) (by omega)
  have e1 : Bt.fieldV A 1 4 * 256 % 4294967296 = ((A / 2 % 16 * 256 : Nat) : Int) := Is.piece_val A 1 4 8 k7 (by omega) (by omega) (by omega)
  have e2 : (t3 : Int) * 4096 = ((t3 * 4096 : Nat) : Int) := by omega
  have e3 : (rs1 : Int) * 32768 = ((rs1 * 32768 : Nat) : Int) := by omega
  have e4 : (rs2 : Int) * 1048576 = ((rs2 * 1048576 : Nat) : Int) := by omega
  have e5 : Bt.fieldV A 5 6 * 33554432 % 4294967296 = ((A / 32 % 64 * 33554432 : Nat) : Int) := Is.piece_val A 5 6 25 k7 (by omega) (by omega) (by omega)
  have e6 : Bt.fieldV A 12 1 * 2147483648 % 4294967296 = ((A / 4096 % 2 * 2147483648 : Nat) : Int) := Is.piece_val A 12 1 31 k7 (by omega) (by omega) (by omega)
  rw [e0, e1, e2, e3, e4, e5, e6, Is.or_top _ _ 7 (A / 2048 % 2) rfl (by omega) (by omega), Is.or_top _ _ 8 (A / 2 % 16) rfl (by omega) (by omega), Is.or_top _ _ 12 t3 rfl (by omega) (by omega), Is.or_top _ _ 15 rs1 rfl (by omega) (by omega), Is.or_top _ _ 20 rs2 rfl (by omega) (by omega), Is.or_top _ _ 25 (A / 32 % 64) rfl (by omega) (by omega), Is.or_top _ _ 31 (A / 4096 % 2) rfl (by omega) (by omega)]
  exact Int.natCast_inj.2 (by (simp only [Is.wordS]) <;> omega)
set_option maxRecDepth 100000 in
set_option maxHeartbeats 4000000 in
theorem renc_4 (n rd rs1 rs2 : Nat) (imm : Int) (w : World) (g : Is.Good n rd rs1 rs2 imm) (hs : (Is.form n).shape = 4) : Calls Tryz.prog 96 #[(⟨n, rd, rs1, rs2, imm⟩ : Is.Inst).v] w fun e w' => e = .returned (.tuple #[.int .u32 (Is.word n rd rs1 rs2 imm : Nat), .int .i64 0]) ∧ Below w.heap.size w w' := by
  have cL := Lib.hid (fun W => legal_ref ⟨n, rd, rs1, rs2, imm⟩ W)
  rw [Is.good_legal g] at cL
  have cF := Lib.hid (fun W => rfuncts_any n g.hn W)
  have cO := Lib.hid (fun W => ropcode_any n g.hn W)
  have cS := Lib.hid (fun W => shape_ref (n : Int) W)
  have cB := Lib.hid (fun (f m : Int) W => still_of' (rbits_any imm f m W))
  rw [Is.shape_form n g.hn, hs] at cS
  have hb := Is.form_bd n g.hn
  have hem := g.empty
  have HW := Lib.hid (Is.word_of (n := n) (rd := rd) (rs1 := rs1) (rs2 := rs2) (imm := imm) (by rw [hs]; decide) g.hn)
  rw [Is.rcode_eq (by rw [hs]; decide)] at cO
  rw [hs] at HW hem hb
  obtain ⟨A, hA⟩ : ∃ A : Nat, imm % 4294967296 = A := ⟨(imm % 4294967296).toNat, by omega⟩
  have hlt : A < 4294967296 := by omega
  have h1 : (rd : Int) < 32 := by have := g.hrd; omega
  have h2 : (rs1 : Int) < 32 := by have := g.hrs1; omega
  have h3 : (rs2 : Int) < 32 := by have := g.hrs2; omega
  have HG := Lib.hid g
  have HS7 := Lib.hid hs
  clear g hs
  rw [hA, Int.toNat_natCast] at cB
  rw [hA, Int.toNat_natCast] at HW
  generalize hcc : (Is.form n).code = c at *
  generalize hc3 : (Is.form n).three = t3 at *
  generalize hc7 : (Is.form n).seven = t7 at *
  have HB := Lib.hid hb
  have HE := Lib.hid hem
  have b1 : (c : Int) < 128 := by have := HB.out.2.1; omega
  have b2 : (t3 : Int) < 8 := by have := HB.out.2.2.1; omega
  have b3 : (t7 : Int) < 128 := by have := HB.out.2.2.2; omega
  clear hb hem hcc hc3 hc7
  have H2 := Lib.hid (show ∀ W', Below (w.heap.size + 1) (w.alloc (.cells #[.int .i64 n, .int .i64 rd, .int .i64 rs1, .int .i64 rs2, .int .i64 imm] 114)) W' →
      (W'.cell? ⟨w.heap.size, 0, none⟩ = some (.int .i64 n) ∧ W'.cell? ⟨w.heap.size, 1, none⟩ = some (.int .i64 rd) ∧ W'.cell? ⟨w.heap.size, 2, none⟩ = some (.int .i64 rs1) ∧ W'.cell? ⟨w.heap.size, 3, none⟩ = some (.int .i64 rs2) ∧ W'.cell? ⟨w.heap.size, 4, none⟩ = some (.int .i64 imm)) from fun W' hb =>
    ⟨(hb.cell (p := ⟨w.heap.size, 0, none⟩) (by simp; try omega)).trans (by go_simp), (hb.cell (p := ⟨w.heap.size, 1, none⟩) (by simp; try omega)).trans (by go_simp), (hb.cell (p := ⟨w.heap.size, 2, none⟩) (by simp; try omega)).trans (by go_simp), (hb.cell (p := ⟨w.heap.size, 3, none⟩) (by simp; try omega)).trans (by go_simp), (hb.cell (p := ⟨w.heap.size, 4, none⟩) (by simp; try omega)).trans (by go_simp)⟩)
  have HA := Lib.hid hA
  have HL := Lib.hid hlt
  clear hlt
  go_enter Tryz.func96, Tryz.ntmps96
  go_wp2_with fail
  refine (cL.out _).mono ?_
  rintro e w1 ⟨rfl, hb1⟩
  simp only [World.size_alloc] at hb1
  have HB1 := Lib.hid hb1
  clear hb1
  obtain ⟨q0, q1, q2, q3, q4⟩ := H2.out _ HB1.out
  go_wp2_with fail
  refine (cF.out _).mono ?_
  rintro e w2 ⟨rfl, hb2⟩
  have HB2 := Lib.hid (HB1.out.trans (hb2.mono (by have := HB1.out.size; simp at this; omega)))
  clear hb2 q0 q1 q2 q3 q4
  obtain ⟨q0, q1, q2, q3, q4⟩ := H2.out _ HB2.out
  go_wp2_with fail
  refine (cO.out _).mono ?_
  rintro e w3 ⟨rfl, hb3⟩
  have HB3 := Lib.hid (HB2.out.trans (hb3.mono (by have := HB2.out.size; simp at this; omega)))
  clear hb3 q0 q1 q2 q3 q4
  obtain ⟨q0, q1, q2, q3, q4⟩ := H2.out _ HB3.out
  have HBw := Lib.hid (show Below w.heap.size w w3 from ((Below.refl _ _).alloc (Nat.le_refl _) _).trans (HB3.out.mono (by omega)))
  go_wp2_with (go_at_call 145; refine (cS.out _).mono ?_; rintro e w' ⟨rfl, rfl⟩)
  go_quiet ((go_at_call 156; exact Calls.quiet_of_same (cB.out _ _ _)))
  go_wp2_with fail
  go_ret2
  refine ⟨ret2i ?_, (isDrewN HBw.out _)⟩
  show _ = ((Is.word n rd rs1 rs2 imm : Nat) : Int)
  rw [HW.out]
  clear HB1 HB2 HB3 HBw cL cF cO cS cB H2
  obtain ⟨-, k1, k2, k3⟩ := HB.out
  have k4 := HG.out.hrd
  have k5 := HG.out.hrs1
  have k6 := HG.out.hrs2
  have k7 := HL.out
  clear hA h1 h2 h3 b1 b2 b3 HW HB HE HA HL
  have e0 : Bt.fieldV A 0 5 * 128 % 4294967296 = ((A / 1 % 32 * 128 : Nat) : Int) := Is.piece_val A 0 5 7 k7 (by omega) (by omega) (by omega)
  have e1 : (t3 : Int) * 4096 = ((t3 * 4096 : Nat) : Int) := by omega
  have e2 : (rs1 : Int) * 32768 = ((rs1 * 32768 : Nat) : Int) := by omega
  have e3 : (rs2 : Int) * 1048576 = ((rs2 * 1048576 : Nat) : Int) := by omega
  have e4 : Bt.fieldV A 5 7 * 33554432 % 4294967296 = ((A / 32 % 128 * 33554432 : Nat) : Int) := Is.piece_val A 5 7 25 k7 (by omega) (by omega) (by omega)
  rw [e0, e1, e2, e3, e4, Is.or_top _ _ 7 (A / 1 % 32) rfl (by omega) (by omega), Is.or_top _ _ 12 t3 rfl (by omega) (by omega), Is.or_top _ _ 15 rs1 rfl (by omega) (by omega), Is.or_top _ _ 20 rs2 rfl (by omega) (by omega), Is.or_top _ _ 25 (A / 32 % 128) rfl (by omega) (by omega)]
  exact Int.natCast_inj.2 (by (simp only [Is.wordS]) <;> omega)
set_option maxRecDepth 100000 in
set_option maxHeartbeats 4000000 in
theorem renc_5 (n rd rs1 rs2 : Nat) (imm : Int) (w : World) (g : Is.Good n rd rs1 rs2 imm) (hs : (Is.form n).shape = 5) : Calls Tryz.prog 96 #[(⟨n, rd, rs1, rs2, imm⟩ : Is.Inst).v] w fun e w' => e = .returned (.tuple #[.int .u32 (Is.word n rd rs1 rs2 imm : Nat), .int .i64 0]) ∧ Below w.heap.size w w' := by
  have cL := Lib.hid (fun W => legal_ref ⟨n, rd, rs1, rs2, imm⟩ W)
  rw [Is.good_legal g] at cL
  have cF := Lib.hid (fun W => rfuncts_any n g.hn W)
  have cO := Lib.hid (fun W => ropcode_any n g.hn W)
  have cS := Lib.hid (fun W => shape_ref (n : Int) W)
  have cB := Lib.hid (fun (f m : Int) W => still_of' (rbits_any imm f m W))
  rw [Is.shape_form n g.hn, hs] at cS
  have hb := Is.form_bd n g.hn
  have hem := g.empty
  have HW := Lib.hid (Is.word_of (n := n) (rd := rd) (rs1 := rs1) (rs2 := rs2) (imm := imm) (by rw [hs]; decide) g.hn)
  rw [Is.rcode_eq (by rw [hs]; decide)] at cO
  rw [hs] at HW hem hb
  obtain ⟨A, hA⟩ : ∃ A : Nat, imm % 4294967296 = A := ⟨(imm % 4294967296).toNat, by omega⟩
  have hlt : A < 4294967296 := by omega
  have h1 : (rd : Int) < 32 := by have := g.hrd; omega
  have h2 : (rs1 : Int) < 32 := by have := g.hrs1; omega
  have h3 : (rs2 : Int) < 32 := by have := g.hrs2; omega
  have HG := Lib.hid g
  have HS7 := Lib.hid hs
  clear g hs
  rw [hA, Int.toNat_natCast] at cB
  rw [hA, Int.toNat_natCast] at HW
  generalize hcc : (Is.form n).code = c at *
  generalize hc3 : (Is.form n).three = t3 at *
  generalize hc7 : (Is.form n).seven = t7 at *
  have HB := Lib.hid hb
  have HE := Lib.hid hem
  have b1 : (c : Int) < 128 := by have := HB.out.2.1; omega
  have b2 : (t3 : Int) < 8 := by have := HB.out.2.2.1; omega
  have b3 : (t7 : Int) < 128 := by have := HB.out.2.2.2; omega
  clear hb hem hcc hc3 hc7
  have H2 := Lib.hid (show ∀ W', Below (w.heap.size + 1) (w.alloc (.cells #[.int .i64 n, .int .i64 rd, .int .i64 rs1, .int .i64 rs2, .int .i64 imm] 114)) W' →
      (W'.cell? ⟨w.heap.size, 0, none⟩ = some (.int .i64 n) ∧ W'.cell? ⟨w.heap.size, 1, none⟩ = some (.int .i64 rd) ∧ W'.cell? ⟨w.heap.size, 2, none⟩ = some (.int .i64 rs1) ∧ W'.cell? ⟨w.heap.size, 3, none⟩ = some (.int .i64 rs2) ∧ W'.cell? ⟨w.heap.size, 4, none⟩ = some (.int .i64 imm)) from fun W' hb =>
    ⟨(hb.cell (p := ⟨w.heap.size, 0, none⟩) (by simp; try omega)).trans (by go_simp), (hb.cell (p := ⟨w.heap.size, 1, none⟩) (by simp; try omega)).trans (by go_simp), (hb.cell (p := ⟨w.heap.size, 2, none⟩) (by simp; try omega)).trans (by go_simp), (hb.cell (p := ⟨w.heap.size, 3, none⟩) (by simp; try omega)).trans (by go_simp), (hb.cell (p := ⟨w.heap.size, 4, none⟩) (by simp; try omega)).trans (by go_simp)⟩)
  have HA := Lib.hid hA
  have HL := Lib.hid hlt
  clear hlt
  go_enter Tryz.func96, Tryz.ntmps96
  go_wp2_with fail
  refine (cL.out _).mono ?_
  rintro e w1 ⟨rfl, hb1⟩
  simp only [World.size_alloc] at hb1
  have HB1 := Lib.hid hb1
  clear hb1
  obtain ⟨q0, q1, q2, q3, q4⟩ := H2.out _ HB1.out
  go_wp2_with fail
  refine (cF.out _).mono ?_
  rintro e w2 ⟨rfl, hb2⟩
  have HB2 := Lib.hid (HB1.out.trans (hb2.mono (by have := HB1.out.size; simp at this; omega)))
  clear hb2 q0 q1 q2 q3 q4
  obtain ⟨q0, q1, q2, q3, q4⟩ := H2.out _ HB2.out
  go_wp2_with fail
  refine (cO.out _).mono ?_
  rintro e w3 ⟨rfl, hb3⟩
  have HB3 := Lib.hid (HB2.out.trans (hb3.mono (by have := HB2.out.size; simp at this; omega)))
  clear hb3 q0 q1 q2 q3 q4
  obtain ⟨q0, q1, q2, q3, q4⟩ := H2.out _ HB3.out
  have HBw := Lib.hid (show Below w.heap.size w w3 from ((Below.refl _ _).alloc (Nat.le_refl _) _).trans (HB3.out.mono (by omega)))
  go_wp2_with (go_at_call 145; refine (cS.out _).mono ?_; rintro e w' ⟨rfl, rfl⟩)
  go_ret2
  refine ⟨ret2i ?_, HBw.out⟩
  show _ = ((Is.word n rd rs1 rs2 imm : Nat) : Int)
  rw [HW.out]
  clear HB1 HB2 HB3 HBw cL cF cO cS cB H2
  obtain ⟨-, k1, k2, k3⟩ := HB.out
  have k4 := HG.out.hrd
  have k5 := HG.out.hrs1
  have k6 := HG.out.hrs2
  have k7 := HL.out
  have k8 : A < 32 := by
    have l := HG.out.least
    have m := HG.out.most
    rw [HS7.out] at l m
    have l' : (0 : Int) ≤ imm := l
    have m' : imm ≤ 31 := m
    have := HA.out
    omega
  clear hA h1 h2 h3 b1 b2 b3 HW HB HE HA HL
  have e0 : (rd : Int) * 128 = ((rd * 128 : Nat) : Int) := by omega
  have e1 : (t3 : Int) * 4096 = ((t3 * 4096 : Nat) : Int) := by omega
  have e2 : (rs1 : Int) * 32768 = ((rs1 * 32768 : Nat) : Int) := by omega
  have e3 : (A : Int) * 1048576 % 4294967296 = ((A * 1048576 : Nat) : Int) := by omega
  have e4 : (t7 : Int) * 33554432 = ((t7 * 33554432 : Nat) : Int) := by omega
  rw [e0, e1, e2, e3, e4, Is.or_top _ _ 7 rd rfl (by omega) (by omega), Is.or_top _ _ 12 t3 rfl (by omega) (by omega), Is.or_top _ _ 15 rs1 rfl (by omega) (by omega), Is.or_top _ _ 20 A rfl (by omega) (by omega), Is.or_top _ _ 25 t7 rfl (by omega) (by omega)]
  exact Int.natCast_inj.2 (by (simp only [Is.wordS]) <;> omega)
set_option maxRecDepth 100000 in
set_option maxHeartbeats 4000000 in
theorem renc_6 (n rd rs1 rs2 : Nat) (imm : Int) (w : World) (g : Is.Good n rd rs1 rs2 imm) (hs : (Is.form n).shape = 6) : Calls Tryz.prog 96 #[(⟨n, rd, rs1, rs2, imm⟩ : Is.Inst).v] w fun e w' => e = .returned (.tuple #[.int .u32 (Is.word n rd rs1 rs2 imm : Nat), .int .i64 0]) ∧ Below w.heap.size w w' := by
  have cL := Lib.hid (fun W => legal_ref ⟨n, rd, rs1, rs2, imm⟩ W)
  rw [Is.good_legal g] at cL
  have cF := Lib.hid (fun W => rfuncts_any n g.hn W)
  have cO := Lib.hid (fun W => ropcode_any n g.hn W)
  have cS := Lib.hid (fun W => shape_ref (n : Int) W)
  have cB := Lib.hid (fun (f m : Int) W => still_of' (rbits_any imm f m W))
  rw [Is.shape_form n g.hn, hs] at cS
  have hb := Is.form_bd n g.hn
  have hem := g.empty
  have HW := Lib.hid (Is.word_of (n := n) (rd := rd) (rs1 := rs1) (rs2 := rs2) (imm := imm) (by rw [hs]; decide) g.hn)
  rw [Is.rcode_eq (by rw [hs]; decide)] at cO
  rw [hs] at HW hem hb
  obtain ⟨A, hA⟩ : ∃ A : Nat, imm % 4294967296 = A := ⟨(imm % 4294967296).toNat, by omega⟩
  have hlt : A < 4294967296 := by omega
  have h1 : (rd : Int) < 32 := by have := g.hrd; omega
  have h2 : (rs1 : Int) < 32 := by have := g.hrs1; omega
  have h3 : (rs2 : Int) < 32 := by have := g.hrs2; omega
  have HG := Lib.hid g
  have HS7 := Lib.hid hs
  clear g hs
  rw [hA, Int.toNat_natCast] at cB
  rw [hA, Int.toNat_natCast] at HW
  generalize hcc : (Is.form n).code = c at *
  generalize hc3 : (Is.form n).three = t3 at *
  generalize hc7 : (Is.form n).seven = t7 at *
  have HB := Lib.hid hb
  have HE := Lib.hid hem
  have b1 : (c : Int) < 128 := by have := HB.out.2.1; omega
  have b2 : (t3 : Int) < 8 := by have := HB.out.2.2.1; omega
  have b3 : (t7 : Int) < 128 := by have := HB.out.2.2.2; omega
  clear hb hem hcc hc3 hc7
  have H2 := Lib.hid (show ∀ W', Below (w.heap.size + 1) (w.alloc (.cells #[.int .i64 n, .int .i64 rd, .int .i64 rs1, .int .i64 rs2, .int .i64 imm] 114)) W' →
      (W'.cell? ⟨w.heap.size, 0, none⟩ = some (.int .i64 n) ∧ W'.cell? ⟨w.heap.size, 1, none⟩ = some (.int .i64 rd) ∧ W'.cell? ⟨w.heap.size, 2, none⟩ = some (.int .i64 rs1) ∧ W'.cell? ⟨w.heap.size, 3, none⟩ = some (.int .i64 rs2) ∧ W'.cell? ⟨w.heap.size, 4, none⟩ = some (.int .i64 imm)) from fun W' hb =>
    ⟨(hb.cell (p := ⟨w.heap.size, 0, none⟩) (by simp; try omega)).trans (by go_simp), (hb.cell (p := ⟨w.heap.size, 1, none⟩) (by simp; try omega)).trans (by go_simp), (hb.cell (p := ⟨w.heap.size, 2, none⟩) (by simp; try omega)).trans (by go_simp), (hb.cell (p := ⟨w.heap.size, 3, none⟩) (by simp; try omega)).trans (by go_simp), (hb.cell (p := ⟨w.heap.size, 4, none⟩) (by simp; try omega)).trans (by go_simp)⟩)
  have HA := Lib.hid hA
  have HL := Lib.hid hlt
  clear hlt
  go_enter Tryz.func96, Tryz.ntmps96
  go_wp2_with fail
  refine (cL.out _).mono ?_
  rintro e w1 ⟨rfl, hb1⟩
  simp only [World.size_alloc] at hb1
  have HB1 := Lib.hid hb1
  clear hb1
  obtain ⟨q0, q1, q2, q3, q4⟩ := H2.out _ HB1.out
  go_wp2_with fail
  refine (cF.out _).mono ?_
  rintro e w2 ⟨rfl, hb2⟩
  have HB2 := Lib.hid (HB1.out.trans (hb2.mono (by have := HB1.out.size; simp at this; omega)))
  clear hb2 q0 q1 q2 q3 q4
  obtain ⟨q0, q1, q2, q3, q4⟩ := H2.out _ HB2.out
  go_wp2_with fail
  refine (cO.out _).mono ?_
  rintro e w3 ⟨rfl, hb3⟩
  have HB3 := Lib.hid (HB2.out.trans (hb3.mono (by have := HB2.out.size; simp at this; omega)))
  clear hb3 q0 q1 q2 q3 q4
  obtain ⟨q0, q1, q2, q3, q4⟩ := H2.out _ HB3.out
  have HBw := Lib.hid (show Below w.heap.size w w3 from ((Below.refl _ _).alloc (Nat.le_refl _) _).trans (HB3.out.mono (by omega)))
  go_wp2_with (go_at_call 145; refine (cS.out _).mono ?_; rintro e w' ⟨rfl, rfl⟩)
  go_ret2
  refine ⟨ret2i ?_, HBw.out⟩
  show _ = ((Is.word n rd rs1 rs2 imm : Nat) : Int)
  rw [HW.out]
  clear HB1 HB2 HB3 HBw cL cF cO cS cB H2
  obtain ⟨-, k1, k2, k3⟩ := HB.out
  have k4 := HG.out.hrd
  have k5 := HG.out.hrs1
  have k6 := HG.out.hrs2
  have k7 := HL.out
  clear hA h1 h2 h3 b1 b2 b3 HW HB HE HA HL
  have e0 : (rd : Int) * 128 = ((rd * 128 : Nat) : Int) := by omega
  have e1 : (t3 : Int) * 4096 = ((t3 * 4096 : Nat) : Int) := by omega
  have e2 : (rs1 : Int) * 32768 = ((rs1 * 32768 : Nat) : Int) := by omega
  have e3 : (rs2 : Int) * 1048576 = ((rs2 * 1048576 : Nat) : Int) := by omega
  have e4 : (t7 : Int) * 33554432 = ((t7 * 33554432 : Nat) : Int) := by omega
  rw [e0, e1, e2, e3, e4, Is.or_top _ _ 7 rd rfl (by omega) (by omega), Is.or_top _ _ 12 t3 rfl (by omega) (by omega), Is.or_top _ _ 15 rs1 rfl (by omega) (by omega), Is.or_top _ _ 20 rs2 rfl (by omega) (by omega), Is.or_top _ _ 25 t7 rfl (by omega) (by omega)]
  exact Int.natCast_inj.2 (by (simp only [Is.wordS]) <;> omega)
set_option maxRecDepth 100000 in
set_option maxHeartbeats 4000000 in
theorem renc_7 (n rd rs1 rs2 : Nat) (imm : Int) (w : World) (g : Is.Good n rd rs1 rs2 imm) (hs : (Is.form n).shape = 7) : Calls Tryz.prog 96 #[(⟨n, rd, rs1, rs2, imm⟩ : Is.Inst).v] w fun e w' => e = .returned (.tuple #[.int .u32 (Is.word n rd rs1 rs2 imm : Nat), .int .i64 0]) ∧ Below w.heap.size w w' := by
  have cL := Lib.hid (fun W => legal_ref ⟨n, rd, rs1, rs2, imm⟩ W)
  rw [Is.good_legal g] at cL
  have cF := Lib.hid (fun W => rfuncts_any n g.hn W)
  have cO := Lib.hid (fun W => ropcode_any n g.hn W)
  have cS := Lib.hid (fun W => shape_ref (n : Int) W)
  have cB := Lib.hid (fun (f m : Int) W => still_of' (rbits_any imm f m W))
  rw [Is.shape_form n g.hn, hs] at cS
  have hb := Is.form_bd n g.hn
  have hem := g.empty
  obtain ⟨A, hA⟩ : ∃ A : Nat, imm % 4294967296 = A := ⟨(imm % 4294967296).toNat, by omega⟩
  have hlt : A < 4294967296 := by omega
  have h1 : (rd : Int) < 32 := by have := g.hrd; omega
  have h2 : (rs1 : Int) < 32 := by have := g.hrs1; omega
  have h3 : (rs2 : Int) < 32 := by have := g.hrs2; omega
  have HG := Lib.hid g
  have HS7 := Lib.hid hs
  clear g hs
  rw [hA, Int.toNat_natCast] at cB
  have H2 := Lib.hid (show ∀ W', Below (w.heap.size + 1) (w.alloc (.cells #[.int .i64 n, .int .i64 rd, .int .i64 rs1, .int .i64 rs2, .int .i64 imm] 114)) W' →
      (W'.cell? ⟨w.heap.size, 0, none⟩ = some (.int .i64 n) ∧ W'.cell? ⟨w.heap.size, 1, none⟩ = some (.int .i64 rd) ∧ W'.cell? ⟨w.heap.size, 2, none⟩ = some (.int .i64 rs1) ∧ W'.cell? ⟨w.heap.size, 3, none⟩ = some (.int .i64 rs2) ∧ W'.cell? ⟨w.heap.size, 4, none⟩ = some (.int .i64 imm)) from fun W' hb =>
    ⟨(hb.cell (p := ⟨w.heap.size, 0, none⟩) (by simp; try omega)).trans (by go_simp), (hb.cell (p := ⟨w.heap.size, 1, none⟩) (by simp; try omega)).trans (by go_simp), (hb.cell (p := ⟨w.heap.size, 2, none⟩) (by simp; try omega)).trans (by go_simp), (hb.cell (p := ⟨w.heap.size, 3, none⟩) (by simp; try omega)).trans (by go_simp), (hb.cell (p := ⟨w.heap.size, 4, none⟩) (by simp; try omega)).trans (by go_simp)⟩)
  have HA := Lib.hid hA
  have HL := Lib.hid hlt
  clear hlt
  go_enter Tryz.func96, Tryz.ntmps96
  go_wp2_with fail
  refine (cL.out _).mono ?_
  rintro e w1 ⟨rfl, hb1⟩
  simp only [World.size_alloc] at hb1
  have HB1 := Lib.hid hb1
  clear hb1
  obtain ⟨q0, q1, q2, q3, q4⟩ := H2.out _ HB1.out
  go_wp2_with fail
  refine (cF.out _).mono ?_
  rintro e w2 ⟨rfl, hb2⟩
  have HB2 := Lib.hid (HB1.out.trans (hb2.mono (by have := HB1.out.size; simp at this; omega)))
  clear hb2 q0 q1 q2 q3 q4
  obtain ⟨q0, q1, q2, q3, q4⟩ := H2.out _ HB2.out
  go_wp2_with fail
  refine (cO.out _).mono ?_
  rintro e w3 ⟨rfl, hb3⟩
  have HB3 := Lib.hid (HB2.out.trans (hb3.mono (by have := HB2.out.size; simp at this; omega)))
  clear hb3 q0 q1 q2 q3 q4
  obtain ⟨q0, q1, q2, q3, q4⟩ := H2.out _ HB3.out
  have HBw := Lib.hid (show Below w.heap.size w w3 from ((Below.refl _ _).alloc (Nat.le_refl _) _).trans (HB3.out.mono (by omega)))
  go_wp2_with (go_at_call 145; refine (cS.out _).mono ?_; rintro e w' ⟨rfl, rfl⟩)
  go_ret2
  refine ⟨ret2i ?_, HBw.out⟩
  show _ = ((Is.word n rd rs1 rs2 imm : Nat) : Int)
  clear HB1 HB2 HB3 HBw cL cF cO cS cB H2
  have h := (Is.form_empty n HG.out.hn).2.2.1.1 HS7.out
  unfold Is.word
  rcases h with rfl | rfl
  · rw [if_pos rfl]; exact Is.bare38
  · rw [if_neg (by decide), if_pos rfl]; exact Is.bare39
set_option maxRecDepth 100000 in
set_option maxHeartbeats 4000000 in
theorem renc_8 (n rd rs1 rs2 : Nat) (imm : Int) (w : World) (g : Is.Good n rd rs1 rs2 imm) (hs : (Is.form n).shape = 8) : Calls Tryz.prog 96 #[(⟨n, rd, rs1, rs2, imm⟩ : Is.Inst).v] w fun e w' => e = .returned (.tuple #[.int .u32 (Is.word n rd rs1 rs2 imm : Nat), .int .i64 0]) ∧ Below w.heap.size w w' := by
  have cL := Lib.hid (fun W => legal_ref ⟨n, rd, rs1, rs2, imm⟩ W)
  rw [Is.good_legal g] at cL
  have cF := Lib.hid (fun W => rfuncts_any n g.hn W)
  have cO := Lib.hid (fun W => ropcode_any n g.hn W)
  have cS := Lib.hid (fun W => shape_ref (n : Int) W)
  have cB := Lib.hid (fun (f m : Int) W => still_of' (rbits_any imm f m W))
  rw [Is.shape_form n g.hn, hs] at cS
  have hb := Is.form_bd n g.hn
  have hem := g.empty
  have HW := Lib.hid (Is.word_of (n := n) (rd := rd) (rs1 := rs1) (rs2 := rs2) (imm := imm) (by rw [hs]; decide) g.hn)
  rw [Is.rcode_eq (by rw [hs]; decide)] at cO
  rw [hs] at HW hem hb
  obtain ⟨A, hA⟩ : ∃ A : Nat, imm % 4294967296 = A := ⟨(imm % 4294967296).toNat, by omega⟩
  have hlt : A < 4294967296 := by omega
  have h1 : (rd : Int) < 32 := by have := g.hrd; omega
  have h2 : (rs1 : Int) < 32 := by have := g.hrs1; omega
  have h3 : (rs2 : Int) < 32 := by have := g.hrs2; omega
  have HG := Lib.hid g
  have HS7 := Lib.hid hs
  clear g hs
  rw [hA, Int.toNat_natCast] at cB
  rw [hA, Int.toNat_natCast] at HW
  generalize hcc : (Is.form n).code = c at *
  generalize hc3 : (Is.form n).three = t3 at *
  generalize hc7 : (Is.form n).seven = t7 at *
  have HB := Lib.hid hb
  have HE := Lib.hid hem
  have b1 : (c : Int) < 128 := by have := HB.out.2.1; omega
  have b2 : (t3 : Int) < 8 := by have := HB.out.2.2.1; omega
  have b3 : (t7 : Int) < 128 := by have := HB.out.2.2.2; omega
  clear hb hem hcc hc3 hc7
  have H2 := Lib.hid (show ∀ W', Below (w.heap.size + 1) (w.alloc (.cells #[.int .i64 n, .int .i64 rd, .int .i64 rs1, .int .i64 rs2, .int .i64 imm] 114)) W' →
      (W'.cell? ⟨w.heap.size, 0, none⟩ = some (.int .i64 n) ∧ W'.cell? ⟨w.heap.size, 1, none⟩ = some (.int .i64 rd) ∧ W'.cell? ⟨w.heap.size, 2, none⟩ = some (.int .i64 rs1) ∧ W'.cell? ⟨w.heap.size, 3, none⟩ = some (.int .i64 rs2) ∧ W'.cell? ⟨w.heap.size, 4, none⟩ = some (.int .i64 imm)) from fun W' hb =>
    ⟨(hb.cell (p := ⟨w.heap.size, 0, none⟩) (by simp; try omega)).trans (by go_simp), (hb.cell (p := ⟨w.heap.size, 1, none⟩) (by simp; try omega)).trans (by go_simp), (hb.cell (p := ⟨w.heap.size, 2, none⟩) (by simp; try omega)).trans (by go_simp), (hb.cell (p := ⟨w.heap.size, 3, none⟩) (by simp; try omega)).trans (by go_simp), (hb.cell (p := ⟨w.heap.size, 4, none⟩) (by simp; try omega)).trans (by go_simp)⟩)
  have HA := Lib.hid hA
  have HL := Lib.hid hlt
  clear hlt
  go_enter Tryz.func96, Tryz.ntmps96
  go_wp2_with fail
  refine (cL.out _).mono ?_
  rintro e w1 ⟨rfl, hb1⟩
  simp only [World.size_alloc] at hb1
  have HB1 := Lib.hid hb1
  clear hb1
  obtain ⟨q0, q1, q2, q3, q4⟩ := H2.out _ HB1.out
  go_wp2_with fail
  refine (cF.out _).mono ?_
  rintro e w2 ⟨rfl, hb2⟩
  have HB2 := Lib.hid (HB1.out.trans (hb2.mono (by have := HB1.out.size; simp at this; omega)))
  clear hb2 q0 q1 q2 q3 q4
  obtain ⟨q0, q1, q2, q3, q4⟩ := H2.out _ HB2.out
  go_wp2_with fail
  refine (cO.out _).mono ?_
  rintro e w3 ⟨rfl, hb3⟩
  have HB3 := Lib.hid (HB2.out.trans (hb3.mono (by have := HB2.out.size; simp at this; omega)))
  clear hb3 q0 q1 q2 q3 q4
  obtain ⟨q0, q1, q2, q3, q4⟩ := H2.out _ HB3.out
  have HBw := Lib.hid (show Below w.heap.size w w3 from ((Below.refl _ _).alloc (Nat.le_refl _) _).trans (HB3.out.mono (by omega)))
  go_wp2_with (first | (go_at_call 145; refine (cS.out _).mono ?_; rintro e w' ⟨rfl, rfl⟩) | (go_at_call 156; refine (cB.out 0 12 _).mono ?_; rintro e w' ⟨rfl, rfl⟩))
  go_ret2
  refine ⟨ret2i ?_, HBw.out⟩
  show _ = ((Is.word n rd rs1 rs2 imm : Nat) : Int)
  rw [HW.out]
  clear HB1 HB2 HB3 HBw cL cF cO cS cB H2
  obtain ⟨-, k1, k2, k3⟩ := HB.out
  have k4 := HG.out.hrd
  have k5 := HG.out.hrs1
  have k6 := HG.out.hrs2
  have k7 := HL.out
  have k9 := HE.out.rd (by simp)
  have k10 := HE.out.rs1 (by simp)
  have k11 := HE.out.three (by simp)
  clear hA h1 h2 h3 b1 b2 b3 HW HB HE HA HL
  have e0 : (rd : Int) * 128 = ((rd * 128 : Nat) : Int) := by omega
  have e1 : (t3 : Int) * 4096 = ((t3 * 4096 : Nat) : Int) := by omega
  have e2 : (rs1 : Int) * 32768 = ((rs1 * 32768 : Nat) : Int) := by omega
  have e3 : Bt.fieldV A 0 12 * 1048576 % 4294967296 = ((A / 1 % 4096 * 1048576 : Nat) : Int) := Is.piece_val A 0 12 20 k7 (by omega) (by omega) (by omega)
  rw [e0, e1, e2, e3, Is.or_top _ _ 7 rd rfl (by omega) (by omega), Is.or_top _ _ 12 t3 rfl (by omega) (by omega), Is.or_top _ _ 15 rs1 rfl (by omega) (by omega), Is.or_top _ _ 20 (A / 1 % 4096) rfl (by omega) (by omega)]
  exact Int.natCast_inj.2 (by (simp only [Is.wordS]) <;> omega)
theorem enc_ref (i : Is.Inst) (w : World) : Calls Tryz.prog 96 #[i.v] w fun e w' => e = .returned (.tuple #[.int .u32 (Is.enc i).1, .int .i64 (Is.enc i).2]) ∧ Below w.heap.size w w' := by
  cases h : Is.legal i
  · have hE : Is.enc i = (0, 20) := by rw [Is.enc, if_neg (by simp [h])]
    rw [hE]
    exact renc_bad i w h
  · obtain ⟨n, rd, rs1, rs2, e, g⟩ := Is.legal_good h
    generalize i.imm = imm at *
    subst e
    rw [Is.enc_word g]
    have hb : (Is.form n).shape ≤ 8 := (Is.form_bd n g.hn).1
    have hc : (Is.form n).shape = 0 ∨ (Is.form n).shape = 1 ∨ (Is.form n).shape = 2 ∨ (Is.form n).shape = 3 ∨ (Is.form n).shape = 4 ∨ (Is.form n).shape = 5 ∨ (Is.form n).shape = 6 ∨ (Is.form n).shape = 7 ∨ (Is.form n).shape = 8 := by omega
    rcases hc with h | h | h | h | h | h | h | h | h
    · exact renc_0 n rd rs1 rs2 imm w g h
    · exact renc_1 n rd rs1 rs2 imm w g h
    · exact renc_2 n rd rs1 rs2 imm w g h
    · exact renc_3 n rd rs1 rs2 imm w g h
    · exact renc_4 n rd rs1 rs2 imm w g h
    · exact renc_5 n rd rs1 rs2 imm w g h
    · exact renc_6 n rd rs1 rs2 imm w g h
    · exact renc_7 n rd rs1 rs2 imm w g h
    · exact renc_8 n rd rs1 rs2 imm w g h
end Go.Proofs.YtpcpaoeajcjoiaaGreatDoor
