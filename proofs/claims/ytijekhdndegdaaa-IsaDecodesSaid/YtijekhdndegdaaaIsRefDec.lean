/- Walks of the document's signed, fields. -/
import Derived.Test.YtijekhdndegdaaaIsRefEncode
namespace Go.Proofs.Ytijekhdndegdaaa
open Go.RowKit
set_option linter.unusedVariables false
set_option linter.unusedSimpArgs false

theorem rsigned_any (v : Nat) (n : Int) (w : World) (hv : v < 4294967296) (h1 : 1 ≤ n) (h2 : n ≤ 32) : Calls Try.prog 101 #[.int .u32 v, .int .i64 n] w fun e w' => e = .returned (.int .i64 (Bt.sgn (Bt.sext v n.toNat))) ∧ w = w' := by
  have c := Lib.hid (fun w => rsext_in v n w hv h1 h2)
  have hl := Bt.sext_lt v n.toNat hv (by omega) (by omega)
  generalize Bt.sext v n.toNat = s at *
  have c2 := Lib.hid (fun w => signed_any s w hl)
  clear hl
  go_enter Try.func101, Try.ntmps101
  go_wp2_with (first | (go_at_call 40; refine (c.out _).mono ?_; rintro e w' ⟨rfl, rfl⟩) | (go_at_call 32; refine (c2.out _).mono ?_; rintro e w' ⟨rfl, rfl⟩))
  go_ret
  exact ⟨rfl, rfl⟩
theorem Is.fv_val (x f n : Nat) (hn : 1 ≤ n) (hf : f + n ≤ 32) : Bt.fieldV x (f : Int) (n : Int) = (x : Int) / 2 ^ f % 2 ^ n := by
  rw [Bt.fieldV, if_pos ⟨by omega, by omega, by omega, by omega⟩]
  simp
/-- A word's fields, as an Op has them. -/
def Is.fld (x : Nat) (op : Int) : Is.Inst := (Is.decS x op (Is.shape op)).1
theorem ret_inst {i j : Is.Inst} (h : i = j) : Ending.returned i.v = .returned j.v := by rw [h]
set_option maxRecDepth 100000 in
set_option maxHeartbeats 8000000 in
theorem fields_ref (x : Nat) (op : Int) (w : World) (hx : x < 4294967296) (hop : Is.shape op ≠ -1) : Calls Try.prog 91 #[.int .i64 op, .int .u32 x] w fun e w' => e = .returned (Is.fld x op).v ∧ Below w.heap.size w w' := by
  have hs := Is.shape_cases op
  have cs := Lib.hid (fun W => shape_ref op W)
  have HD := Lib.hid (show Is.fld x op = (Is.decS x op (Is.shape op)).1 from rfl)
  have cb := Lib.hid (show ∀ (f m : Int) (W : World), Calls Try.prog 85 #[.int .i64 (x : Int), .int .i64 f, .int .i64 m] W fun e w' => e = .returned (.int .u32 (Bt.fieldV x f m)) ∧ W = w' from fun f m W => by
    have := rbits_any (x : Int) f m W
    rwa [show ((x : Int) % 4294967296).toNat = x by omega] at this)
  generalize Is.shape op = s at *
  have F7_5 : Bt.fieldV x 7 5 = (x : Int) / 128 % 32 := by
    rw [show Bt.fieldV x 7 5 = (x : Int) / 2 ^ 7 % 2 ^ 5 from Is.fv_val x 7 5 (by omega) (by omega)]; omega
  have F15_5 : Bt.fieldV x 15 5 = (x : Int) / 32768 % 32 := by
    rw [show Bt.fieldV x 15 5 = (x : Int) / 2 ^ 15 % 2 ^ 5 from Is.fv_val x 15 5 (by omega) (by omega)]; omega
  have F20_5 : Bt.fieldV x 20 5 = (x : Int) / 1048576 % 32 := by
    rw [show Bt.fieldV x 20 5 = (x : Int) / 2 ^ 20 % 2 ^ 5 from Is.fv_val x 20 5 (by omega) (by omega)]; omega
  rcases hs with rfl | rfl | rfl | rfl | rfl | rfl | rfl | rfl | rfl | rfl
  · exact absurd rfl hop
  · go_enter Try.func91, Try.ntmps91
    go_wp2_with (first | (go_at_call 85; refine (cb.out _ _ _).mono ?_; rintro e w' ⟨rfl, rfl⟩) | (go_at_call 65; refine (cs.out _).mono ?_; rintro e w' ⟨rfl, rfl⟩))
    refine bodyPost_ret (v := (⟨op, (x : Int) / 128 % 32, 0, 0, (x : Int) / 4096⟩ : Is.Inst).v) (by simp [results, Try.results91, go_sem]) rfl ⟨ret_inst (by rw [HD.out]; simp [Is.decS]), ?_⟩
    repeat (first | exact (Below.refl _ _) | exact (Below.refl _ _).alloc (Nat.le_refl _) _ | apply Below.drew | refine Below.setCell ?_ (by simp) _)
  · have F21_10 : Bt.fieldV x 21 10 = (x : Int) / 2097152 % 1024 := by
      rw [show Bt.fieldV x 21 10 = (x : Int) / 2 ^ 21 % 2 ^ 10 from Is.fv_val x 21 10 (by omega) (by omega)]; omega
    have F20_1 : Bt.fieldV x 20 1 = (x : Int) / 1048576 % 2 := by
      rw [show Bt.fieldV x 20 1 = (x : Int) / 2 ^ 20 % 2 ^ 1 from Is.fv_val x 20 1 (by omega) (by omega)]; omega
    have F12_8 : Bt.fieldV x 12 8 = (x : Int) / 4096 % 256 := by
      rw [show Bt.fieldV x 12 8 = (x : Int) / 2 ^ 12 % 2 ^ 8 from Is.fv_val x 12 8 (by omega) (by omega)]; omega
    have F31_1 : Bt.fieldV x 31 1 = (x : Int) / 2147483648 := by
      rw [show Bt.fieldV x 31 1 = (x : Int) / 2 ^ 31 % 2 ^ 1 from Is.fv_val x 31 1 (by omega) (by omega)]; omega
    have O1 : bits .or .u32 ((x : Int) / 2097152 % 1024 * 2) ((x : Int) / 1048576 % 2 * 2048) = ((x / 2097152 % 1024 * 2 + x / 1048576 % 2 * 2048 : Nat) : Int) := by
      have := Is.or_u32 (x / 2097152 % 1024 * 2) (x / 1048576 % 2) 11 (by omega) (by omega); simpa using this
    obtain ⟨J1, hJ1⟩ : ∃ J1 : Nat, J1 = x / 2097152 % 1024 * 2 + x / 1048576 % 2 * 2048 := ⟨_, rfl⟩
    rw [← hJ1] at O1
    have O2 : bits .or .u32 (J1 : Int) ((x : Int) / 4096 % 256 * 4096) = ((J1 + x / 4096 % 256 * 4096 : Nat) : Int) := by
      have := Is.or_u32 J1 (x / 4096 % 256) 12 (by omega) (by omega); simpa using this
    obtain ⟨J2, hJ2⟩ : ∃ J2 : Nat, J2 = J1 + x / 4096 % 256 * 4096 := ⟨_, rfl⟩
    rw [← hJ2] at O2
    have O3 : bits .or .u32 (J2 : Int) ((x : Int) / 2147483648 * 1048576) = ((J2 + x / 2147483648 * 1048576 : Nat) : Int) := by
      have := Is.or_u32 J2 (x / 2147483648) 20 (by omega) (by omega); simpa using this
    obtain ⟨J, hJ⟩ : ∃ J : Nat, J = J2 + x / 2147483648 * 1048576 := ⟨_, rfl⟩
    rw [← hJ] at O3
    have HJ := Lib.hid (show Is.jv x = J by unfold Is.jv; omega)
    have hJb : J < 4294967296 := by omega
    clear hJ hJ1 hJ2
    have cx := Lib.hid (fun W => rsigned_any J 21 W hJb (by omega) (by omega))
    go_enter Try.func91, Try.ntmps91
    go_wp2_with (first | (go_at_call 85; refine (cb.out _ _ _).mono ?_; rintro e w' ⟨rfl, rfl⟩) | (go_at_call 65; refine (cs.out _).mono ?_; rintro e w' ⟨rfl, rfl⟩) | (go_at_call 101; refine (cx.out _).mono ?_; rintro e w' ⟨rfl, rfl⟩))
    have HJ' := HJ.out
    clear O1 O2 O3
    refine bodyPost_ret (v := (⟨op, (x : Int) / 128 % 32, 0, 0, Bt.sgn (Bt.sext J 21)⟩ : Is.Inst).v) (by simp [results, Try.results91, go_sem]) rfl ⟨ret_inst (by rw [HD.out]; simp [Is.decS, HJ']), ?_⟩
    repeat (first | exact (Below.refl _ _) | exact (Below.refl _ _).alloc (Nat.le_refl _) _ | apply Below.drew | refine Below.setCell ?_ (by simp) _)
  · have cx := Lib.hid (fun W => rsigned_any (x / 1048576) 12 W (by omega) (by omega) (by omega))
    have HE := Lib.hid (show ((x / 1048576 : Nat) : Int) = (x : Int) / 1048576 by simp)
    rw [HE.out] at cx
    go_enter Try.func91, Try.ntmps91
    go_wp2_with (first | (go_at_call 85; refine (cb.out _ _ _).mono ?_; rintro e w' ⟨rfl, rfl⟩) | (go_at_call 65; refine (cs.out _).mono ?_; rintro e w' ⟨rfl, rfl⟩) | (go_at_call 101; refine (cx.out _).mono ?_; rintro e w' ⟨rfl, rfl⟩))
    refine bodyPost_ret (v := (⟨op, (x : Int) / 128 % 32, (x : Int) / 32768 % 32, 0, Bt.sgn (Bt.sext (x / 1048576) 12)⟩ : Is.Inst).v) (by simp [results, Try.results91, go_sem]) rfl ⟨ret_inst (by rw [HD.out]; simp [Is.decS]), ?_⟩
    repeat (first | exact (Below.refl _ _) | exact (Below.refl _ _).alloc (Nat.le_refl _) _ | apply Below.drew | refine Below.setCell ?_ (by simp) _)
  · have F8_4 : Bt.fieldV x 8 4 = (x : Int) / 256 % 16 := by
      rw [show Bt.fieldV x 8 4 = (x : Int) / 2 ^ 8 % 2 ^ 4 from Is.fv_val x 8 4 (by omega) (by omega)]; omega
    have F25_6 : Bt.fieldV x 25 6 = (x : Int) / 33554432 % 64 := by
      rw [show Bt.fieldV x 25 6 = (x : Int) / 2 ^ 25 % 2 ^ 6 from Is.fv_val x 25 6 (by omega) (by omega)]; omega
    have F7_1 : Bt.fieldV x 7 1 = (x : Int) / 128 % 2 := by
      rw [show Bt.fieldV x 7 1 = (x : Int) / 2 ^ 7 % 2 ^ 1 from Is.fv_val x 7 1 (by omega) (by omega)]; omega
    have F31_1 : Bt.fieldV x 31 1 = (x : Int) / 2147483648 := by
      rw [show Bt.fieldV x 31 1 = (x : Int) / 2 ^ 31 % 2 ^ 1 from Is.fv_val x 31 1 (by omega) (by omega)]; omega
    have O1 : bits .or .u32 ((x : Int) / 256 % 16 * 2) ((x : Int) / 33554432 % 64 * 32) = ((x / 256 % 16 * 2 + x / 33554432 % 64 * 32 : Nat) : Int) := by
      have := Is.or_u32 (x / 256 % 16 * 2) (x / 33554432 % 64) 5 (by omega) (by omega); simpa using this
    obtain ⟨J1, hJ1⟩ : ∃ J1 : Nat, J1 = x / 256 % 16 * 2 + x / 33554432 % 64 * 32 := ⟨_, rfl⟩
    rw [← hJ1] at O1
    have O2 : bits .or .u32 (J1 : Int) ((x : Int) / 128 % 2 * 2048) = ((J1 + x / 128 % 2 * 2048 : Nat) : Int) := by
      have := Is.or_u32 J1 (x / 128 % 2) 11 (by omega) (by omega); simpa using this
    obtain ⟨J2, hJ2⟩ : ∃ J2 : Nat, J2 = J1 + x / 128 % 2 * 2048 := ⟨_, rfl⟩
    rw [← hJ2] at O2
    have O3 : bits .or .u32 (J2 : Int) ((x : Int) / 2147483648 * 4096) = ((J2 + x / 2147483648 * 4096 : Nat) : Int) := by
      have := Is.or_u32 J2 (x / 2147483648) 12 (by omega) (by omega); simpa using this
    obtain ⟨J, hJ⟩ : ∃ J : Nat, J = J2 + x / 2147483648 * 4096 := ⟨_, rfl⟩
    rw [← hJ] at O3
    have HJ := Lib.hid (show Is.bv x = J by unfold Is.bv; omega)
    have hJb : J < 4294967296 := by omega
    clear hJ hJ1 hJ2
    have cx := Lib.hid (fun W => rsigned_any J 13 W hJb (by omega) (by omega))
    go_enter Try.func91, Try.ntmps91
    go_wp2_with (first | (go_at_call 85; refine (cb.out _ _ _).mono ?_; rintro e w' ⟨rfl, rfl⟩) | (go_at_call 65; refine (cs.out _).mono ?_; rintro e w' ⟨rfl, rfl⟩) | (go_at_call 101; refine (cx.out _).mono ?_; rintro e w' ⟨rfl, rfl⟩))
    have HJ' := HJ.out
    clear O1 O2 O3
    refine bodyPost_ret (v := (⟨op, 0, (x : Int) / 32768 % 32, (x : Int) / 1048576 % 32, Bt.sgn (Bt.sext J 13)⟩ : Is.Inst).v) (by simp [results, Try.results91, go_sem]) rfl ⟨ret_inst (by rw [HD.out]; simp [Is.decS, HJ']), ?_⟩
    repeat (first | exact (Below.refl _ _) | exact (Below.refl _ _).alloc (Nat.le_refl _) _ | apply Below.drew | refine Below.setCell ?_ (by simp) _)
  · have F25_7 : Bt.fieldV x 25 7 = (x : Int) / 33554432 := by
      rw [show Bt.fieldV x 25 7 = (x : Int) / 2 ^ 25 % 2 ^ 7 from Is.fv_val x 25 7 (by omega) (by omega)]; omega
    have O1 : bits .or .u32 ((x : Int) / 128 % 32) ((x : Int) / 33554432 * 32) = ((x / 128 % 32 + x / 33554432 * 32 : Nat) : Int) := by
      have := Is.or_u32 (x / 128 % 32) (x / 33554432) 5 (by omega) (by omega); simpa using this
    obtain ⟨J, hJ⟩ : ∃ J : Nat, J = x / 128 % 32 + x / 33554432 * 32 := ⟨_, rfl⟩
    rw [← hJ] at O1
    have HJ := Lib.hid (show Is.sv x = J by unfold Is.sv; omega)
    have hJb : J < 4294967296 := by omega
    clear hJ
    have cx := Lib.hid (fun W => rsigned_any J 12 W hJb (by omega) (by omega))
    go_enter Try.func91, Try.ntmps91
    go_wp2_with (first | (go_at_call 85; refine (cb.out _ _ _).mono ?_; rintro e w' ⟨rfl, rfl⟩) | (go_at_call 65; refine (cs.out _).mono ?_; rintro e w' ⟨rfl, rfl⟩) | (go_at_call 101; refine (cx.out _).mono ?_; rintro e w' ⟨rfl, rfl⟩))
    have HJ' := HJ.out
    clear O1
    refine bodyPost_ret (v := (⟨op, 0, (x : Int) / 32768 % 32, (x : Int) / 1048576 % 32, Bt.sgn (Bt.sext J 12)⟩ : Is.Inst).v) (by simp [results, Try.results91, go_sem]) rfl ⟨ret_inst (by rw [HD.out]; simp [Is.decS, HJ']), ?_⟩
    repeat (first | exact (Below.refl _ _) | exact (Below.refl _ _).alloc (Nat.le_refl _) _ | apply Below.drew | refine Below.setCell ?_ (by simp) _)
  · go_enter Try.func91, Try.ntmps91
    go_wp2_with (first | (go_at_call 85; refine (cb.out _ _ _).mono ?_; rintro e w' ⟨rfl, rfl⟩) | (go_at_call 65; refine (cs.out _).mono ?_; rintro e w' ⟨rfl, rfl⟩))
    refine bodyPost_ret (v := (⟨op, (x : Int) / 128 % 32, (x : Int) / 32768 % 32, 0, (x : Int) / 1048576 % 32⟩ : Is.Inst).v) (by simp [results, Try.results91, go_sem]) rfl ⟨ret_inst (by rw [HD.out]; simp [Is.decS]), ?_⟩
    repeat (first | exact (Below.refl _ _) | exact (Below.refl _ _).alloc (Nat.le_refl _) _ | apply Below.drew | refine Below.setCell ?_ (by simp) _)
  · go_enter Try.func91, Try.ntmps91
    go_wp2_with (first | (go_at_call 85; refine (cb.out _ _ _).mono ?_; rintro e w' ⟨rfl, rfl⟩) | (go_at_call 65; refine (cs.out _).mono ?_; rintro e w' ⟨rfl, rfl⟩))
    refine bodyPost_ret (v := (⟨op, (x : Int) / 128 % 32, (x : Int) / 32768 % 32, (x : Int) / 1048576 % 32, 0⟩ : Is.Inst).v) (by simp [results, Try.results91, go_sem]) rfl ⟨ret_inst (by rw [HD.out]; simp [Is.decS]), ?_⟩
    repeat (first | exact (Below.refl _ _) | exact (Below.refl _ _).alloc (Nat.le_refl _) _ | apply Below.drew | refine Below.setCell ?_ (by simp) _)
  · go_enter Try.func91, Try.ntmps91
    go_wp2_with (first | (go_at_call 85; refine (cb.out _ _ _).mono ?_; rintro e w' ⟨rfl, rfl⟩) | (go_at_call 65; refine (cs.out _).mono ?_; rintro e w' ⟨rfl, rfl⟩))
    refine bodyPost_ret (v := (⟨op, 0, 0, 0, 0⟩ : Is.Inst).v) (by simp [results, Try.results91, go_sem]) rfl ⟨ret_inst (by rw [HD.out]; simp [Is.decS]), ?_⟩
    repeat (first | exact (Below.refl _ _) | exact (Below.refl _ _).alloc (Nat.le_refl _) _ | apply Below.drew | refine Below.setCell ?_ (by simp) _)
  · have cx := Lib.hid (fun W => rsigned_any (x / 1048576) 12 W (by omega) (by omega) (by omega))
    have HE := Lib.hid (show ((x / 1048576 : Nat) : Int) = (x : Int) / 1048576 by simp)
    rw [HE.out] at cx
    go_enter Try.func91, Try.ntmps91
    go_wp2_with (first | (go_at_call 85; refine (cb.out _ _ _).mono ?_; rintro e w' ⟨rfl, rfl⟩) | (go_at_call 65; refine (cs.out _).mono ?_; rintro e w' ⟨rfl, rfl⟩) | (go_at_call 101; refine (cx.out _).mono ?_; rintro e w' ⟨rfl, rfl⟩))
    refine bodyPost_ret (v := (⟨op, 0, 0, 0, Bt.sgn (Bt.sext (x / 1048576) 12)⟩ : Is.Inst).v) (by simp [results, Try.results91, go_sem]) rfl ⟨ret_inst (by rw [HD.out]; simp [Is.decS]), ?_⟩
    repeat (first | exact (Below.refl _ _) | exact (Below.refl _ _).alloc (Nat.le_refl _) _ | apply Below.drew | refine Below.setCell ?_ (by simp) _)
end Go.Proofs.Ytijekhdndegdaaa
