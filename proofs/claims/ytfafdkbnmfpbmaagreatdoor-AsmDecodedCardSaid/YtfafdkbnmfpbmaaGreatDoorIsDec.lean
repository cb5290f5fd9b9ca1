/- The walk of isa.Decode. -/
import Derived.Test.YtfafdkbnmfpbmaaGreatDoorIsFind
import Derived.Test.YtfafdkbnmfpbmaaGreatDoorBtSext
namespace Go.Proofs.YtfafdkbnmfpbmaaGreatDoor
open Go.RowKit
set_option linter.unusedVariables false
set_option linter.unusedSimpArgs false

theorem isext_own (v : Nat) (n : Int) (w : World) (hv : v < 4294967296) (h1 : 1 ≤ n) (h2 : n ≤ 32) : Calls Tryz.prog 69 #[.int .u32 v, .int .i64 n] w fun e w' => e = .returned (.int .i64 (Bt.sgn (Bt.sext v n.toNat))) ∧ w = w' := by
  have c := Lib.hid (fun w => sext_nat v n w hv h1 h2)
  have hl := Bt.sext_lt v n.toNat hv (by omega) (by omega)
  generalize Bt.sext v n.toNat = s at *
  have hs := Lib.hid (Bt.wrap32_eq hl)
  go_enter Tryz.func69, Tryz.ntmps69
  go_wp2_with (go_at_call 132; refine (c.out _).mono ?_; rintro e w' ⟨rfl, rfl⟩)
  go_ret
  exact ⟨ret_int (by first | (rw [Bt.wrap64_32, hs.out]) | (rw [hs.out])), rfl⟩

/-- The Imm's bits of a jump, a branch, a store. -/
def Is.jv (x : Nat) : Nat := x / 2097152 % 1024 * 2 + x / 1048576 % 2 * 2048 + x / 4096 % 256 * 4096 + x / 2147483648 * 1048576
def Is.bv (x : Nat) : Nat := x / 256 % 16 * 2 + x / 33554432 % 64 * 32 + x / 128 % 2 * 2048 + x / 2147483648 * 4096
def Is.sv (x : Nat) : Nat := x / 128 % 32 + x / 33554432 * 32
def Is.decS (x : Nat) (op s : Int) : Is.Inst × Int :=
  if s = 0 then (⟨op, (x / 128 % 32 : Nat), 0, 0, (x / 4096 : Nat)⟩, 0)
  else if s = 1 then (⟨op, (x / 128 % 32 : Nat), 0, 0, Bt.sgn (Bt.sext (Is.jv x) 21)⟩, 0)
  else if s = 2 then (⟨op, (x / 128 % 32 : Nat), (x / 32768 % 32 : Nat), 0, Bt.sgn (Bt.sext (x / 1048576) 12)⟩, 0)
  else if s = 3 then (⟨op, 0, (x / 32768 % 32 : Nat), (x / 1048576 % 32 : Nat), Bt.sgn (Bt.sext (Is.bv x) 13)⟩, 0)
  else if s = 4 then (⟨op, 0, (x / 32768 % 32 : Nat), (x / 1048576 % 32 : Nat), Bt.sgn (Bt.sext (Is.sv x) 12)⟩, 0)
  else if s = 5 then (⟨op, (x / 128 % 32 : Nat), (x / 32768 % 32 : Nat), 0, (x / 1048576 % 32 : Nat)⟩, 0)
  else if s = 6 then (⟨op, (x / 128 % 32 : Nat), (x / 32768 % 32 : Nat), (x / 1048576 % 32 : Nat), 0⟩, 0)
  else if s = 7 then (⟨op, 0, 0, 0, 0⟩, 0)
  else if s = 8 then (⟨op, 0, 0, 0, Bt.sgn (Bt.sext (x / 1048576) 12)⟩, 0)
  else (⟨0, 0, 0, 0, 0⟩, 21)
/-- A word's record and error's number. -/
def Is.dec (x : Nat) : Is.Inst × Int := Is.decS x (Is.find x) (Is.shape (Is.find x))

theorem Is.or_u32 (a b k : Nat) (ha : a < 2 ^ k) (hs : a + b * 2 ^ k < 4294967296) : bits .or .u32 (a : Int) ((b * 2 ^ k : Nat) : Int) = ((a + b * 2 ^ k : Nat) : Int) := by
  have h1 : a < 4294967296 := by omega
  have h2 : b * 2 ^ k < 4294967296 := by omega
  have e : a ||| b * 2 ^ k = a + b * 2 ^ k := by
    have h := Nat.two_pow_add_eq_or_of_lt (i := k) ha b
    rw [Nat.or_comm, Nat.mul_comm b, ← h, Nat.add_comm]
  have h3 : (BitVec.ofInt 32 (a : Int)).toNat = a := by rw [BitVec.ofInt_natCast, BitVec.toNat_ofNat]; exact Nat.mod_eq_of_lt (by omega)
  have h4 : (BitVec.ofInt 32 ((b * 2 ^ k : Nat) : Int)).toNat = b * 2 ^ k := by rw [BitVec.ofInt_natCast, BitVec.toNat_ofNat]; exact Nat.mod_eq_of_lt (by omega)
  show IntKind.u32.wrap ((BitVec.ofInt 32 (a : Int) ||| BitVec.ofInt 32 ((b * 2 ^ k : Nat) : Int)).toNat : Int) = _
  rw [BitVec.toNat_or, h3, h4, e, IntKind.wrap_u32]; omega

theorem ret_dec {i j : Is.Inst} {a b : Int} (h : (i, a) = (j, b)) : Ending.returned (.tuple #[i.v, .int .i64 a]) = .returned (.tuple #[j.v, .int .i64 b]) := by cases h; rfl
set_option maxRecDepth 100000 in
set_option maxHeartbeats 8000000 in
theorem dec_own (x : Nat) (w : World) (hx : x < 4294967296) : Calls Tryz.prog 22 #[.int .u32 x] w fun e w' => e = .returned (.tuple #[(Is.dec x).1.v, .int .i64 (Is.dec x).2]) ∧ Below w.heap.size w w' := by
  have cf := Lib.hid (fun W => find_own x W hx)
  have hs := Is.shape_cases (Is.find x)
  have cs := Lib.hid (fun W => shape_own (Is.find x) W)
  have HD := Lib.hid (show Is.dec x = Is.decS x (Is.find x) (Is.shape (Is.find x)) from rfl)
  generalize Is.find x = op at *
  generalize Is.shape op = s at *
  have F1 : bits .and .u32 ((x : Int) / 128) 31 = ((x / 128 % 32 : Nat) : Int) := by have := Bt.field_eq (x / 128) 5 (by omega) (by omega); simpa using this
  have F2 : bits .and .u32 ((x : Int) / 32768) 31 = ((x / 32768 % 32 : Nat) : Int) := by have := Bt.field_eq (x / 32768) 5 (by omega) (by omega); simpa using this
  have F3 : bits .and .u32 ((x : Int) / 1048576) 31 = ((x / 1048576 % 32 : Nat) : Int) := by have := Bt.field_eq (x / 1048576) 5 (by omega) (by omega); simpa using this
  have HV := Lib.hid (show ∀ s, Is.decS x op s = Is.decS x op s from fun _ => rfl)
  have hrd : x / 128 % 32 < 32 := Nat.mod_lt _ (by omega)
  have hra : x / 32768 % 32 < 32 := Nat.mod_lt _ (by omega)
  have hrb : x / 1048576 % 32 < 32 := Nat.mod_lt _ (by omega)
  go_enter Tryz.func22, Tryz.ntmps22
  go_wp2_with fail
  refine (cf.out _).mono ?_
  rintro e w1 ⟨rfl, hb⟩
  have z0 : w1.cell? ⟨w.heap.size, 0, none⟩ = some (.int .i64 0) := (hb.cell (p := ⟨w.heap.size, 0, none⟩) (by simp)).trans (by go_simp)
  have y0 : w1.frozen? ⟨w.heap.size, 0, none⟩ = false := (hb.frozen (p := ⟨w.heap.size, 0, none⟩) (by simp)).trans (by go_simp)
  have z1 : w1.cell? ⟨w.heap.size, 1, none⟩ = some (.int .i64 0) := (hb.cell (p := ⟨w.heap.size, 1, none⟩) (by simp)).trans (by go_simp)
  have y1 : w1.frozen? ⟨w.heap.size, 1, none⟩ = false := (hb.frozen (p := ⟨w.heap.size, 1, none⟩) (by simp)).trans (by go_simp)
  have z2 : w1.cell? ⟨w.heap.size, 2, none⟩ = some (.int .i64 0) := (hb.cell (p := ⟨w.heap.size, 2, none⟩) (by simp)).trans (by go_simp)
  have y2 : w1.frozen? ⟨w.heap.size, 2, none⟩ = false := (hb.frozen (p := ⟨w.heap.size, 2, none⟩) (by simp)).trans (by go_simp)
  have z3 : w1.cell? ⟨w.heap.size, 3, none⟩ = some (.int .i64 0) := (hb.cell (p := ⟨w.heap.size, 3, none⟩) (by simp)).trans (by go_simp)
  have y3 : w1.frozen? ⟨w.heap.size, 3, none⟩ = false := (hb.frozen (p := ⟨w.heap.size, 3, none⟩) (by simp)).trans (by go_simp)
  have z4 : w1.cell? ⟨w.heap.size, 4, none⟩ = some (.int .i64 0) := (hb.cell (p := ⟨w.heap.size, 4, none⟩) (by simp)).trans (by go_simp)
  have y4 : w1.frozen? ⟨w.heap.size, 4, none⟩ = false := (hb.frozen (p := ⟨w.heap.size, 4, none⟩) (by simp)).trans (by go_simp)
  have HB := Lib.hid (show Below w.heap.size w w1 from ((Below.refl _ _).alloc (Nat.le_refl _) _).trans (hb.mono (by simp)))
  clear hb
  go_wp2_with fail
  refine (cs.out _).mono ?_
  rintro e w' ⟨rfl, rfl⟩
  clear F1 F2 F3
  rcases hs with rfl | rfl | rfl | rfl | rfl | rfl | rfl | rfl | rfl | rfl
  · go_wp2
    refine bodyPost_ret (v := .tuple #[(⟨0, 0, 0, 0, 0⟩ : Is.Inst).v, .int .i64 21]) (by simp [results, Tryz.results22, go_sem, z0, z1, z2, z3, z4]) rfl ⟨ret_dec (by rw [HD.out]; simp [Is.decS]), HB.out.trans (Below.mono (B := w.heap.size) ?_ (Nat.le_refl _))⟩
    repeat (first | exact (Below.refl _ _) | apply Below.drew | refine Below.setCell ?_ (by simp) _)
  · go_wp2
    refine bodyPost_ret (v := .tuple #[(⟨op, (x : Int) / 128 % 32, 0, 0, (x : Int) / 4096⟩ : Is.Inst).v, .int .i64 0]) (by simp [results, Tryz.results22, go_sem, z0, z1, z2, z3, z4]) rfl ⟨ret_dec (by rw [HD.out]; simp [Is.decS]), HB.out.trans (Below.mono (B := w.heap.size) ?_ (Nat.le_refl _))⟩
    repeat (first | exact (Below.refl _ _) | apply Below.drew | refine Below.setCell ?_ (by simp) _)
  · have G1 : bits .and .u32 ((x : Int) / 2097152) 1023 = (x : Int) / 2097152 % 1024 := by have := Bt.field_eq (x / 2097152) 10 (by omega) (by omega); simpa using this
    have G2 : bits .and .u32 ((x : Int) / 1048576) 1 = (x : Int) / 1048576 % 2 := by have := Bt.field_eq (x / 1048576) 1 (by omega) (by omega); simpa using this
    have G3 : bits .and .u32 ((x : Int) / 4096) 255 = (x : Int) / 4096 % 256 := by have := Bt.field_eq (x / 4096) 8 (by omega) (by omega); simpa using this
    have O1 : bits .or .u32 ((x : Int) / 2097152 % 1024 * 2) ((x : Int) / 1048576 % 2 * 2048) = ((x / 2097152 % 1024 * 2 + x / 1048576 % 2 * 2048 : Nat) : Int) := by
      have := Is.or_u32 (x / 2097152 % 1024 * 2) (x / 1048576 % 2) 11 (by omega) (by omega); simpa using this
    obtain ⟨J1, hJ1⟩ : ∃ J1 : Nat, J1 = x / 2097152 % 1024 * 2 + x / 1048576 % 2 * 2048 := ⟨_, rfl⟩
    rw [← hJ1] at O1
    have O2 : bits .or .u32 (J1 : Int) ((x : Int) / 4096 % 256 * 4096) = ((J1 + x / 4096 % 256 * 4096 : Nat) : Int) := by
      have := Is.or_u32 J1 (x / 4096 % 256) 12 (by omega) (by omega); simpa using this
    obtain ⟨J2, hJ2⟩ : ∃ J2 : Nat, J2 = J1 + x / 4096 % 256 * 4096 := ⟨_, rfl⟩
    rw [← hJ2] at O2
    have O3 : bits .or .u32 (J2 : Int) ((x : Int) / 2147483648 * 1048576) = ((J2 + x / 2147483648 * 1048576 : Nat) : Int) := by
      have := Is.or_u32 J2 (x / 2147483648) 20 (by omega) (by omega); simpa using this
    obtain ⟨J, hJ⟩ : ∃ J : Nat, J = J2 + x / 2147483648 * 1048576 := ⟨_, rfl⟩
    rw [← hJ] at O3
    have HJ := Lib.hid (show Is.jv x = J by unfold Is.jv; omega)
    have hJb : J < 4294967296 := by omega
    clear hJ hJ1 hJ2
    have cx := Lib.hid (fun W => isext_own J 21 W hJb (by omega) (by omega))
    go_wp2_with (go_at_call 69; refine (cx.out _).mono ?_; rintro e w' ⟨rfl, rfl⟩)
    have HJ' := HJ.out
    clear O1 O2 O3
    refine bodyPost_ret (v := .tuple #[(⟨op, (x : Int) / 128 % 32, 0, 0, Bt.sgn (Bt.sext J 21)⟩ : Is.Inst).v, .int .i64 0]) (by simp [results, Tryz.results22, go_sem, z0, z1, z2, z3, z4]) rfl ⟨ret_dec (by rw [HD.out]; simp [Is.decS, HJ']), HB.out.trans (Below.mono (B := w.heap.size) ?_ (Nat.le_refl _))⟩
    repeat (first | exact (Below.refl _ _) | apply Below.drew | refine Below.setCell ?_ (by simp) _)
  · have cx := Lib.hid (fun W => isext_own (x / 1048576) 12 W (by omega) (by omega) (by omega))
    have HE := Lib.hid (show ((x / 1048576 : Nat) : Int) = (x : Int) / 1048576 by simp)
    rw [HE.out] at cx
    go_wp2_with (go_at_call 69; refine (cx.out _).mono ?_; rintro e w' ⟨rfl, rfl⟩)
    refine bodyPost_ret (v := .tuple #[(⟨op, (x : Int) / 128 % 32, (x : Int) / 32768 % 32, 0, Bt.sgn (Bt.sext (x / 1048576) 12)⟩ : Is.Inst).v, .int .i64 0]) (by simp [results, Tryz.results22, go_sem, z0, z1, z2, z3, z4]) rfl ⟨ret_dec (by rw [HD.out]; simp [Is.decS]), HB.out.trans (Below.mono (B := w.heap.size) ?_ (Nat.le_refl _))⟩
    repeat (first | exact (Below.refl _ _) | apply Below.drew | refine Below.setCell ?_ (by simp) _)
  · have G1 : bits .and .u32 ((x : Int) / 256) 15 = (x : Int) / 256 % 16 := by have := Bt.field_eq (x / 256) 4 (by omega) (by omega); simpa using this
    have G2 : bits .and .u32 ((x : Int) / 33554432) 63 = (x : Int) / 33554432 % 64 := by have := Bt.field_eq (x / 33554432) 6 (by omega) (by omega); simpa using this
    have G3 : bits .and .u32 ((x : Int) / 128) 1 = (x : Int) / 128 % 2 := by have := Bt.field_eq (x / 128) 1 (by omega) (by omega); simpa using this
    have O1 : bits .or .u32 ((x : Int) / 256 % 16 * 2) ((x : Int) / 33554432 % 64 * 32) = ((x / 256 % 16 * 2 + x / 33554432 % 64 * 32 : Nat) : Int) := by
      have := Is.or_u32 (x / 256 % 16 * 2) (x / 33554432 % 64) 5 (by omega) (by omega); simpa using this
    obtain ⟨J1, hJ1⟩ : ∃ J1 : Nat, J1 = x / 256 % 16 * 2 + x / 33554432 % 64 * 32 := ⟨_, rfl⟩
    rw [← hJ1] at O1
    have O2 : bits .or .u32 (J1 : Int) ((x : Int) / 128 % 2 * 2048) = ((J1 + x / 128 % 2 * 2048 : Nat) : Int) := by
      have := Is.or_u32 J1 (x / 128 % 2) 11 (by omega) (by omega); simpa using this
    obtain ⟨J2, hJ2⟩ : ∃ J2 : Nat, J2 = J1 + x / 128 % 2 * 2048 := ⟨_, rfl⟩
    rw [← hJ2] at O2
    have O3 : bits .or .u32 (J2 : Int) ((x : Int) / 2147483648 * 4096) = ((J2 + x / 2147483648 * 4096 : Nat) : Int) := by
      have := Is.or_u32 J2 (x / 2147483648) 12 (by omega) (by omega); simpa using this
    obtain ⟨J, hJ⟩ : ∃ J : Nat, J = J2 + x / 2147483648 * 4096 := ⟨_, rfl⟩
    rw [← hJ] at O3
    have HJ := Lib.hid (show Is.bv x = J by unfold Is.bv; omega)
    have hJb : J < 4294967296 := by omega
    clear hJ hJ1 hJ2
    have cx := Lib.hid (fun W => isext_own J 13 W hJb (by omega) (by omega))
    go_wp2_with (go_at_call 69; refine (cx.out _).mono ?_; rintro e w' ⟨rfl, rfl⟩)
    have HJ' := HJ.out
    clear O1 O2 O3
    refine bodyPost_ret (v := .tuple #[(⟨op, 0, (x : Int) / 32768 % 32, (x : Int) / 1048576 % 32, Bt.sgn (Bt.sext J 13)⟩ : Is.Inst).v, .int .i64 0]) (by simp [results, Tryz.results22, go_sem, z0, z1, z2, z3, z4]) rfl ⟨ret_dec (by rw [HD.out]; simp [Is.decS, HJ']), HB.out.trans (Below.mono (B := w.heap.size) ?_ (Nat.le_refl _))⟩
    repeat (first | exact (Below.refl _ _) | apply Below.drew | refine Below.setCell ?_ (by simp) _)
  · have G1 : bits .and .u32 ((x : Int) / 128) 31 = (x : Int) / 128 % 32 := by have := Bt.field_eq (x / 128) 5 (by omega) (by omega); simpa using this
    have O1 : bits .or .u32 ((x : Int) / 128 % 32) ((x : Int) / 33554432 * 32) = ((x / 128 % 32 + x / 33554432 * 32 : Nat) : Int) := by
      have := Is.or_u32 (x / 128 % 32) (x / 33554432) 5 (by omega) (by omega); simpa using this
    obtain ⟨J, hJ⟩ : ∃ J : Nat, J = x / 128 % 32 + x / 33554432 * 32 := ⟨_, rfl⟩
    rw [← hJ] at O1
    have HJ := Lib.hid (show Is.sv x = J by unfold Is.sv; omega)
    have hJb : J < 4294967296 := by omega
    clear hJ
    have cx := Lib.hid (fun W => isext_own J 12 W hJb (by omega) (by omega))
    go_wp2_with (go_at_call 69; refine (cx.out _).mono ?_; rintro e w' ⟨rfl, rfl⟩)
    have HJ' := HJ.out
    clear O1
    refine bodyPost_ret (v := .tuple #[(⟨op, 0, (x : Int) / 32768 % 32, (x : Int) / 1048576 % 32, Bt.sgn (Bt.sext J 12)⟩ : Is.Inst).v, .int .i64 0]) (by simp [results, Tryz.results22, go_sem, z0, z1, z2, z3, z4]) rfl ⟨ret_dec (by rw [HD.out]; simp [Is.decS, HJ']), HB.out.trans (Below.mono (B := w.heap.size) ?_ (Nat.le_refl _))⟩
    repeat (first | exact (Below.refl _ _) | apply Below.drew | refine Below.setCell ?_ (by simp) _)
  · go_wp2
    refine bodyPost_ret (v := .tuple #[(⟨op, (x : Int) / 128 % 32, (x : Int) / 32768 % 32, 0, (x : Int) / 1048576 % 32⟩ : Is.Inst).v, .int .i64 0]) (by simp [results, Tryz.results22, go_sem, z0, z1, z2, z3, z4]) rfl ⟨ret_dec (by rw [HD.out]; simp [Is.decS]), HB.out.trans (Below.mono (B := w.heap.size) ?_ (Nat.le_refl _))⟩
    repeat (first | exact (Below.refl _ _) | apply Below.drew | refine Below.setCell ?_ (by simp) _)
  · go_wp2
    refine bodyPost_ret (v := .tuple #[(⟨op, (x : Int) / 128 % 32, (x : Int) / 32768 % 32, (x : Int) / 1048576 % 32, 0⟩ : Is.Inst).v, .int .i64 0]) (by simp [results, Tryz.results22, go_sem, z0, z1, z2, z3, z4]) rfl ⟨ret_dec (by rw [HD.out]; simp [Is.decS]), HB.out.trans (Below.mono (B := w.heap.size) ?_ (Nat.le_refl _))⟩
    repeat (first | exact (Below.refl _ _) | apply Below.drew | refine Below.setCell ?_ (by simp) _)
  · go_wp2
    refine bodyPost_ret (v := .tuple #[(⟨op, 0, 0, 0, 0⟩ : Is.Inst).v, .int .i64 0]) (by simp [results, Tryz.results22, go_sem, z0, z1, z2, z3, z4]) rfl ⟨ret_dec (by rw [HD.out]; simp [Is.decS]), HB.out.trans (Below.mono (B := w.heap.size) ?_ (Nat.le_refl _))⟩
    repeat (first | exact (Below.refl _ _) | apply Below.drew | refine Below.setCell ?_ (by simp) _)
  · have cx := Lib.hid (fun W => isext_own (x / 1048576) 12 W (by omega) (by omega) (by omega))
    have HE := Lib.hid (show ((x / 1048576 : Nat) : Int) = (x : Int) / 1048576 by simp)
    rw [HE.out] at cx
    go_wp2_with (go_at_call 69; refine (cx.out _).mono ?_; rintro e w' ⟨rfl, rfl⟩)
    refine bodyPost_ret (v := .tuple #[(⟨op, 0, 0, 0, Bt.sgn (Bt.sext (x / 1048576) 12)⟩ : Is.Inst).v, .int .i64 0]) (by simp [results, Tryz.results22, go_sem, z0, z1, z2, z3, z4]) rfl ⟨ret_dec (by rw [HD.out]; simp [Is.decS]), HB.out.trans (Below.mono (B := w.heap.size) ?_ (Nat.le_refl _))⟩
    repeat (first | exact (Below.refl _ _) | apply Below.drew | refine Below.setCell ?_ (by simp) _)
end Go.Proofs.YtfafdkbnmfpbmaaGreatDoor
