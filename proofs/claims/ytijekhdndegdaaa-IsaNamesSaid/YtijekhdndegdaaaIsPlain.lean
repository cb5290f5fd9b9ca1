/- Plain: a legal record's word as a sum. -/
import Derived.Test.YtijekhdndegdaaaIsEncode
import Derived.Test.YtijekhdndegdaaaIsDec
namespace Go.Proofs.Ytijekhdndegdaaa
open Go.RowKit
set_option linter.unusedVariables false
set_option linter.unusedSimpArgs false

theorem Is.or_mid (lo p hi k m : Nat) (h1 : lo < 2 ^ k) (h2 : lo + p * 2 ^ k < 2 ^ m) (hs : lo + p * 2 ^ k + hi * 2 ^ m < 4294967296) :
    bits .or .u32 ((lo + hi * 2 ^ m : Nat) : Int) ((p * 2 ^ k : Nat) : Int) = ((lo + p * 2 ^ k + hi * 2 ^ m : Nat) : Int) := by
  have hlt : lo < 2 ^ m := by omega
  have e1 : lo ||| hi * 2 ^ m = lo + hi * 2 ^ m := by
    have h := Nat.two_pow_add_eq_or_of_lt (i := m) hlt hi
    rw [Nat.or_comm, Nat.mul_comm hi, ← h, Nat.add_comm]
  have e2 : lo ||| p * 2 ^ k = lo + p * 2 ^ k := by
    have h := Nat.two_pow_add_eq_or_of_lt (i := k) h1 p
    rw [Nat.or_comm, Nat.mul_comm p, ← h, Nat.add_comm]
  have e3 : (lo + p * 2 ^ k) ||| hi * 2 ^ m = lo + p * 2 ^ k + hi * 2 ^ m := by
    have h := Nat.two_pow_add_eq_or_of_lt (i := m) h2 hi
    rw [Nat.or_comm, Nat.mul_comm hi, ← h, Nat.add_comm]
  have e : (lo + hi * 2 ^ m) ||| p * 2 ^ k = lo + p * 2 ^ k + hi * 2 ^ m := by
    rw [← e1, Nat.or_assoc, Nat.or_comm (hi * 2 ^ m), ← Nat.or_assoc, e2, e3]
  have l1 : lo + hi * 2 ^ m < 4294967296 := by omega
  have l2 : p * 2 ^ k < 4294967296 := by omega
  have h3 : (BitVec.ofInt 32 ((lo + hi * 2 ^ m : Nat) : Int)).toNat = lo + hi * 2 ^ m := by rw [BitVec.ofInt_natCast, BitVec.toNat_ofNat]; exact Nat.mod_eq_of_lt (by omega)
  have h4 : (BitVec.ofInt 32 ((p * 2 ^ k : Nat) : Int)).toNat = p * 2 ^ k := by rw [BitVec.ofInt_natCast, BitVec.toNat_ofNat]; exact Nat.mod_eq_of_lt (by omega)
  show IntKind.u32.wrap ((BitVec.ofInt 32 ((lo + hi * 2 ^ m : Nat) : Int) ||| BitVec.ofInt 32 ((p * 2 ^ k : Nat) : Int)).toNat : Int) = _
  rw [BitVec.toNat_or, h3, h4, e, IntKind.wrap_u32]; omega
/-- The same, with the terms as they come. -/
theorem Is.or_any (X Y lo p hi k m : Nat) (hX : X = lo + hi * 2 ^ m) (hY : Y = p * 2 ^ k) (h1 : lo < 2 ^ k) (h2 : lo + p * 2 ^ k < 2 ^ m) (hs : lo + p * 2 ^ k + hi * 2 ^ m < 4294967296) :
    bits .or .u32 (X : Int) (Y : Int) = ((X + Y : Nat) : Int) := by
  subst hX hY
  rw [Is.or_mid lo p hi k m h1 h2 hs]
  congr 1; omega
theorem Is.or_top (X Y k p : Nat) (hY : Y = p * 2 ^ k) (h1 : X < 2 ^ k) (hs : X + Y < 4294967296) : bits .or .u32 (X : Int) (Y : Int) = ((X + Y : Nat) : Int) := by
  subst hY
  exact Is.or_u32 X p k h1 hs

theorem Is.base_sum (f : Is.Form) (rd rs1 rs2 : Nat) (h1 : f.code < 128) (h2 : f.three < 8) (h3 : f.seven < 128) (hd : rd < 32) (ha : rs1 < 32) (hb : rs2 < 32) :
    Is.base f rd rs1 rs2 = ((f.code + rd * 128 + f.three * 4096 + rs1 * 32768 + rs2 * 1048576 + f.seven * 33554432 : Nat) : Int) := by
  unfold Is.base
  have e1 : (rd : Int) % 4294967296 * 128 % 4294967296 = ((rd * 128 : Nat) : Int) := by omega
  have e2 : (f.three : Int) * 4096 = ((f.three * 4096 : Nat) : Int) := by omega
  have e3 : (rs1 : Int) % 4294967296 * 32768 % 4294967296 = ((rs1 * 32768 : Nat) : Int) := by omega
  have e4 : (rs2 : Int) % 4294967296 * 1048576 % 4294967296 = ((rs2 * 1048576 : Nat) : Int) := by omega
  have e5 : (f.seven : Int) * 33554432 = ((f.seven * 33554432 : Nat) : Int) := by omega
  rw [e1, e2, e3, e4, e5, Is.or_top _ _ 7 rd rfl (by omega) (by omega), Is.or_top _ _ 12 f.three rfl (by omega) (by omega), Is.or_top _ _ 15 rs1 rfl (by omega) (by omega), Is.or_top _ _ 20 rs2 rfl (by omega) (by omega), Is.or_top _ _ 25 f.seven rfl (by omega) (by omega)]

/-- One piece. -/
theorem Is.piece_val (A from' n at' : Nat) (hA : A < 4294967296) (hn : 1 ≤ n) (hf : from' + n ≤ 32) (ha : at' + n ≤ 32) :
    Bt.fieldV A (from' : Int) (n : Int) * 2 ^ (at' : Int).toNat % 4294967296 = ((A / 2 ^ from' % 2 ^ n * 2 ^ at' : Nat) : Int) := by
  rw [Bt.fieldV, if_pos ⟨by omega, by omega, by omega, by omega⟩]
  simp only [Int.toNat_natCast]
  have h1 : A / 2 ^ from' % 2 ^ n < 2 ^ n := Nat.mod_lt _ (Nat.two_pow_pos n)
  have h2 : A / 2 ^ from' % 2 ^ n * 2 ^ at' < 2 ^ n * 2 ^ at' := Nat.mul_lt_mul_of_pos_right h1 (Nat.two_pow_pos _)
  have h3 : 2 ^ n * 2 ^ at' ≤ 2 ^ 32 := by rw [← Nat.pow_add]; exact Nat.pow_le_pow_right (by omega) (by omega)
  have h4 : ((A / 2 ^ from' % 2 ^ n : Nat) : Int) * 2 ^ at' = ((A / 2 ^ from' % 2 ^ n * 2 ^ at' : Nat) : Int) := by simp
  rw [h4]
  generalize A / 2 ^ from' % 2 ^ n * 2 ^ at' = z at *
  omega

/-- A record's word as a sum; A: the Imm's lowest 32 bits. -/
def Is.wordS (s code three seven rd rs1 rs2 A : Nat) : Nat :=
  match s with
  | 0 => code + rd * 128 + A % 1048576 * 4096
  | 1 => code + rd * 128 + A / 4096 % 256 * 4096 + A / 2048 % 2 * 1048576 + A / 2 % 1024 * 2097152 + A / 1048576 % 2 * 2147483648
  | 2 => code + rd * 128 + three * 4096 + rs1 * 32768 + A % 4096 * 1048576
  | 3 => code + A / 2048 % 2 * 128 + A / 2 % 16 * 256 + three * 4096 + rs1 * 32768 + rs2 * 1048576 + A / 32 % 64 * 33554432 + A / 4096 % 2 * 2147483648
  | 4 => code + A % 32 * 128 + three * 4096 + rs1 * 32768 + rs2 * 1048576 + A / 32 % 128 * 33554432
  | 5 => code + rd * 128 + three * 4096 + rs1 * 32768 + A % 32 * 1048576 + seven * 33554432
  | 6 => code + rd * 128 + three * 4096 + rs1 * 32768 + rs2 * 1048576 + seven * 33554432
  | 8 => code + A % 4096 * 1048576
  | _ => 0
/-- What a form's shape leaves empty. -/
structure Is.Empty (s three seven rd rs1 rs2 : Nat) : Prop where
  rd : s = 3 ∨ s = 4 ∨ s = 7 ∨ s = 8 → rd = 0
  rs1 : s = 0 ∨ s = 1 ∨ s = 7 ∨ s = 8 → rs1 = 0
  rs2 : s = 0 ∨ s = 1 ∨ s = 2 ∨ s = 5 ∨ s = 7 ∨ s = 8 → rs2 = 0
  three : s = 0 ∨ s = 1 ∨ s = 7 ∨ s = 8 → three = 0
  seven : s = 0 ∨ s = 1 ∨ s = 2 ∨ s = 3 ∨ s = 4 ∨ s = 7 ∨ s = 8 → seven = 0

theorem Is.acc_sum (f : Is.Form) (rd rs1 rs2 A : Nat) (h1 : f.code < 128) (h2 : f.three < 8) (h3 : f.seven < 128) (hd : rd < 32) (ha : rs1 < 32) (hb : rs2 < 32) (hA : A < 4294967296) (hs : f.shape ≤ 8) (h7 : f.shape ≠ 7)
    (he : Is.Empty f.shape f.three f.seven rd rs1 rs2) : Is.acc A (Is.base f rd rs1 rs2) (Is.pieces f.shape) = (Is.wordS f.shape f.code f.three f.seven rd rs1 rs2 A : Int) := by
  rw [Is.base_sum f rd rs1 rs2 h1 h2 h3 hd ha hb]
  obtain ⟨nm, s, code, three, seven⟩ := f
  simp only at *
  have hc : s = 0 ∨ s = 1 ∨ s = 2 ∨ s = 3 ∨ s = 4 ∨ s = 5 ∨ s = 6 ∨ s = 8 := by omega
  have pv := fun f n at' => Is.piece_val A f n at' hA
  rcases hc with rfl | rfl | rfl | rfl | rfl | rfl | rfl | rfl
  · obtain rfl := he.rs1 (by simp)
    obtain rfl := he.rs2 (by simp)
    obtain rfl := he.three (by simp)
    obtain rfl := he.seven (by simp)
    show bits .or .u32 _ (Bt.fieldV A ((0 : Nat) : Int) ((20 : Nat) : Int) * 2 ^ ((12 : Nat) : Int).toNat % 4294967296) = _
    rw [pv 0 20 12 (by omega) (by omega) (by omega), Is.or_top _ _ 12 _ rfl (by omega) (by omega)]
    exact Int.natCast_inj.2 (by simp only [Is.wordS]; omega)
  · obtain rfl := he.rs1 (by simp)
    obtain rfl := he.rs2 (by simp)
    obtain rfl := he.three (by simp)
    obtain rfl := he.seven (by simp)
    show bits .or .u32 (bits .or .u32 (bits .or .u32 (bits .or .u32 _ (Bt.fieldV A ((12 : Nat) : Int) ((8 : Nat) : Int) * 2 ^ ((12 : Nat) : Int).toNat % 4294967296)) (Bt.fieldV A ((11 : Nat) : Int) ((1 : Nat) : Int) * 2 ^ ((20 : Nat) : Int).toNat % 4294967296)) (Bt.fieldV A ((1 : Nat) : Int) ((10 : Nat) : Int) * 2 ^ ((21 : Nat) : Int).toNat % 4294967296)) (Bt.fieldV A ((20 : Nat) : Int) ((1 : Nat) : Int) * 2 ^ ((31 : Nat) : Int).toNat % 4294967296) = _
    rw [pv 12 8 12 (by omega) (by omega) (by omega), pv 11 1 20 (by omega) (by omega) (by omega), pv 1 10 21 (by omega) (by omega) (by omega), pv 20 1 31 (by omega) (by omega) (by omega), Is.or_top _ _ 12 _ rfl (by omega) (by omega), Is.or_top _ _ 20 _ rfl (by omega) (by omega), Is.or_top _ _ 21 _ rfl (by omega) (by omega), Is.or_top _ _ 31 _ rfl (by omega) (by omega)]
    exact Int.natCast_inj.2 (by simp only [Is.wordS]; omega)
  · obtain rfl := he.rs2 (by simp)
    obtain rfl := he.seven (by simp)
    show bits .or .u32 _ (Bt.fieldV A ((0 : Nat) : Int) ((12 : Nat) : Int) * 2 ^ ((20 : Nat) : Int).toNat % 4294967296) = _
    rw [pv 0 12 20 (by omega) (by omega) (by omega), Is.or_top _ _ 20 _ rfl (by omega) (by omega)]
    exact Int.natCast_inj.2 (by simp only [Is.wordS]; omega)
  · obtain rfl := he.rd (by simp)
    obtain rfl := he.seven (by simp)
    show bits .or .u32 (bits .or .u32 (bits .or .u32 (bits .or .u32 _ (Bt.fieldV A ((11 : Nat) : Int) ((1 : Nat) : Int) * 2 ^ ((7 : Nat) : Int).toNat % 4294967296)) (Bt.fieldV A ((1 : Nat) : Int) ((4 : Nat) : Int) * 2 ^ ((8 : Nat) : Int).toNat % 4294967296)) (Bt.fieldV A ((5 : Nat) : Int) ((6 : Nat) : Int) * 2 ^ ((25 : Nat) : Int).toNat % 4294967296)) (Bt.fieldV A ((12 : Nat) : Int) ((1 : Nat) : Int) * 2 ^ ((31 : Nat) : Int).toNat % 4294967296) = _
    rw [pv 11 1 7 (by omega) (by omega) (by omega), pv 1 4 8 (by omega) (by omega) (by omega), pv 5 6 25 (by omega) (by omega) (by omega), pv 12 1 31 (by omega) (by omega) (by omega),
      Is.or_any _ _ code (A / 2 ^ 11 % 2 ^ 1) (three + rs1 * 8 + rs2 * 256) 7 12 (by omega) rfl (by omega) (by omega) (by omega),
      Is.or_any _ _ (code + A / 2 ^ 11 % 2 ^ 1 * 2 ^ 7) (A / 2 ^ 1 % 2 ^ 4) (three + rs1 * 8 + rs2 * 256) 8 12 (by omega) rfl (by omega) (by omega) (by omega),
      Is.or_top _ _ 25 _ rfl (by omega) (by omega), Is.or_top _ _ 31 _ rfl (by omega) (by omega)]
    exact Int.natCast_inj.2 (by simp only [Is.wordS]; omega)
  · obtain rfl := he.rd (by simp)
    obtain rfl := he.seven (by simp)
    show bits .or .u32 (bits .or .u32 _ (Bt.fieldV A ((0 : Nat) : Int) ((5 : Nat) : Int) * 2 ^ ((7 : Nat) : Int).toNat % 4294967296)) (Bt.fieldV A ((5 : Nat) : Int) ((7 : Nat) : Int) * 2 ^ ((25 : Nat) : Int).toNat % 4294967296) = _
    rw [pv 0 5 7 (by omega) (by omega) (by omega), pv 5 7 25 (by omega) (by omega) (by omega),
      Is.or_any _ _ code (A / 2 ^ 0 % 2 ^ 5) (three + rs1 * 8 + rs2 * 256) 7 12 (by omega) rfl (by omega) (by omega) (by omega),
      Is.or_top _ _ 25 _ rfl (by omega) (by omega)]
    exact Int.natCast_inj.2 (by simp only [Is.wordS]; omega)
  · obtain rfl := he.rs2 (by simp)
    show bits .or .u32 _ (Bt.fieldV A ((0 : Nat) : Int) ((5 : Nat) : Int) * 2 ^ ((20 : Nat) : Int).toNat % 4294967296) = _
    rw [pv 0 5 20 (by omega) (by omega) (by omega),
      Is.or_any _ _ (code + rd * 128 + three * 4096 + rs1 * 32768) (A / 2 ^ 0 % 2 ^ 5) seven 20 25 (by omega) rfl (by omega) (by omega) (by omega)]
    exact Int.natCast_inj.2 (by simp only [Is.wordS]; omega)
  · rfl
  · obtain rfl := he.rd (by simp)
    obtain rfl := he.rs1 (by simp)
    obtain rfl := he.rs2 (by simp)
    obtain rfl := he.three (by simp)
    obtain rfl := he.seven (by simp)
    show bits .or .u32 _ (Bt.fieldV A ((0 : Nat) : Int) ((12 : Nat) : Int) * 2 ^ ((20 : Nat) : Int).toNat % 4294967296) = _
    rw [pv 0 12 20 (by omega) (by omega) (by omega), Is.or_top _ _ 20 _ rfl (by omega) (by omega)]
    exact Int.natCast_inj.2 (by simp only [Is.wordS]; omega)
end Go.Proofs.Ytijekhdndegdaaa
