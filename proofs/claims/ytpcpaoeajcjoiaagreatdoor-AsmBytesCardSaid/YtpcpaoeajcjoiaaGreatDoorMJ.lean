/- Texts joined, what is not reached left out. -/
import Derived.Test.YtpcpaoeajcjoiaaGreatDoorIC
/- Plain: a legal record's word as a sum. -/
namespace Go.Proofs.YtpcpaoeajcjoiaaGreatDoor
open Go.RowKit
set_option linter.unusedVariables false
set_option linter.unusedSimpArgs false

theorem Is.or_u32 (a b k : Nat) (ha : a < 2 ^ k) (hs : a + b * 2 ^ k < 4294967296) : bits .or .u32 (a : Int) ((b * 2 ^ k : Nat) : Int) = ((a + b * 2 ^ k : Nat) : Int) := by
  have h1 : a < 4294967296 := by omega
  have h2 : b * 2 ^ k < 4294967296 := by omega
  have e : a ||| b * 2 ^ k = a + b * 2 ^ k := by
    have h := Nat.two_pow_add_eq_or_of_lt (i := k) ha b
    rw [Nat.or_comm, Nat.mul_comm b, ← h, Nat.add_comm]
  have h3 : (BitVec.ofInt 32 (a : Int)).toNat = a := by rw [BitVec.ofInt_natCast, BitVec.toNat_ofNat]; exact Nat.mod_eq_of_lt (by omega)
  have h4 : (BitVec.ofInt 32 ((b * 2 ^ k : Nat) : Int)).toNat = b * 2 ^ k := by rw [BitVec.ofInt_natCast, BitVec.toNat_ofNat]; exact Nat.mod_eq_of_lt (by omega)
  show IntKind.u32.wrap ((BitVec.ofInt 32 (a : Int) ||| BitVec.ofInt 32 ((b * 2 ^ k : Nat) : Int)).toNat : Int) = _
  rw [BitVec.toNat_or, h3, h4, e, IntKind.wrap_u32]; omega
theorem Is.or_mid (lo p hi k m : Nat) (h1 : lo < 2 ^ k) (h2 : lo + p * 2 ^ k < 2 ^ m) (hs : lo + p * 2 ^ k + hi * 2 ^ m < 4294967296) :
    bits .or .u32 ((lo + hi * 2 ^ m : Nat) : Int) ((p * 2 ^ k : Nat) : Int) = ((lo + p * 2 ^ k + hi * 2 ^ m : Nat) : Int) := by
  have hlt : lo < 2 ^ m := by omega
  have e1 : lo ||| hi * 2 ^ m = lo + hi * 2 ^ m := by
    have h := Nat.two_pow_add_eq_or_of_lt (i := m) hlt hi
    rw [Nat.or_comm, Nat.mul_comm hi, ← h, Nat.add_comm]
  have e2 : lo ||| p * 2 ^ k = lo + p * 2 ^ k := by
    have h := Nat.two_pow_add_eq_or_of_lt (i := k) h1 p
    rw [Nat.or_comm, Nat.mul_comm p, ← h, Nat.add_comm]
  have e3 : (lo + p * 2 ^ k) ||| hi * 2 ^ m = lo + p * 2 ^ k + hi * 2 ^ m := by
    have h := Nat.two_pow_add_eq_or_of_lt (i := m) h2 hi
    rw [Nat.or_comm, Nat.mul_comm hi, ← h, Nat.add_comm]
  have e : (lo + hi * 2 ^ m) ||| p * 2 ^ k = lo + p * 2 ^ k + hi * 2 ^ m := by
    rw [← e1, Nat.or_assoc, Nat.or_comm (hi * 2 ^ m), ← Nat.or_assoc, e2, e3]
  have l1 : lo + hi * 2 ^ m < 4294967296 := by omega
  have l2 : p * 2 ^ k < 4294967296 := by omega
  have h3 : (BitVec.ofInt 32 ((lo + hi * 2 ^ m : Nat) : Int)).toNat = lo + hi * 2 ^ m := by rw [BitVec.ofInt_natCast, BitVec.toNat_ofNat]; exact Nat.mod_eq_of_lt (by omega)
  have h4 : (BitVec.ofInt 32 ((p * 2 ^ k : Nat) : Int)).toNat = p * 2 ^ k := by rw [BitVec.ofInt_natCast, BitVec.toNat_ofNat]; exact Nat.mod_eq_of_lt (by omega)
  show IntKind.u32.wrap ((BitVec.ofInt 32 ((lo + hi * 2 ^ m : Nat) : Int) ||| BitVec.ofInt 32 ((p * 2 ^ k : Nat) : Int)).toNat : Int) = _
  rw [BitVec.toNat_or, h3, h4, e, IntKind.wrap_u32]; omega
/-- The same, with the terms as they come. -/
theorem Is.or_any (X Y lo p hi k m : Nat) (hX : X = lo + hi * 2 ^ m) (hY : Y = p * 2 ^ k) (h1 : lo < 2 ^ k) (h2 : lo + p * 2 ^ k < 2 ^ m) (hs : lo + p * 2 ^ k + hi * 2 ^ m < 4294967296) :
    bits .or .u32 (X : Int) (Y : Int) = ((X + Y : Nat) : Int) := by
  subst hX hY
  rw [Is.or_mid lo p hi k m h1 h2 hs]
  congr 1; omega
theorem Is.or_top (X Y k p : Nat) (hY : Y = p * 2 ^ k) (h1 : X < 2 ^ k) (hs : X + Y < 4294967296) : bits .or .u32 (X : Int) (Y : Int) = ((X + Y : Nat) : Int) := by
  subst hY
  exact Is.or_u32 X p k h1 hs

theorem Is.base_sum (f : Is.Form) (rd rs1 rs2 : Nat) (h1 : f.code < 128) (h2 : f.three < 8) (h3 : f.seven < 128) (hd : rd < 32) (ha : rs1 < 32) (hb : rs2 < 32) :
    Is.base f rd rs1 rs2 = ((f.code + rd * 128 + f.three * 4096 + rs1 * 32768 + rs2 * 1048576 + f.seven * 33554432 : Nat) : Int) := by
  unfold Is.base
  have e1 : (rd : Int) % 4294967296 * 128 % 4294967296 = ((rd * 128 : Nat) : Int) := by omega
  have e2 : (f.three : Int) * 4096 = ((f.three * 4096 : Nat) : Int) := by omega
  have e3 : (rs1 : Int) % 4294967296 * 32768 % 4294967296 = ((rs1 * 32768 : Nat) : Int) := by omega
  have e4 : (rs2 : Int) % 4294967296 * 1048576 % 4294967296 = ((rs2 * 1048576 : Nat) : Int) := by omega
  have e5 : (f.seven : Int) * 33554432 = ((f.seven * 33554432 : Nat) : Int) := by omega
  rw [e1, e2, e3, e4, e5, Is.or_top _ _ 7 rd rfl (by omega) (by omega), Is.or_top _ _ 12 f.three rfl (by omega) (by omega), Is.or_top _ _ 15 rs1 rfl (by omega) (by omega), Is.or_top _ _ 20 rs2 rfl (by omega) (by omega), Is.or_top _ _ 25 f.seven rfl (by omega) (by omega)]

/-- One piece. -/
theorem Is.piece_val (A from' n at' : Nat) (hA : A < 4294967296) (hn : 1 ≤ n) (hf : from' + n ≤ 32) (ha : at' + n ≤ 32) :
    Bt.fieldV A (from' : Int) (n : Int) * 2 ^ (at' : Int).toNat % 4294967296 = ((A / 2 ^ from' % 2 ^ n * 2 ^ at' : Nat) : Int) := by
  rw [Bt.fieldV, if_pos ⟨by omega, by omega, by omega, by omega⟩]
  simp only [Int.toNat_natCast]
  have h1 : A / 2 ^ from' % 2 ^ n < 2 ^ n := Nat.mod_lt _ (Nat.two_pow_pos n)
  have h2 : A / 2 ^ from' % 2 ^ n * 2 ^ at' < 2 ^ n * 2 ^ at' := Nat.mul_lt_mul_of_pos_right h1 (Nat.two_pow_pos _)
  have h3 : 2 ^ n * 2 ^ at' ≤ 2 ^ 32 := by rw [← Nat.pow_add]; exact Nat.pow_le_pow_right (by omega) (by omega)
  have h4 : ((A / 2 ^ from' % 2 ^ n : Nat) : Int) * 2 ^ at' = ((A / 2 ^ from' % 2 ^ n * 2 ^ at' : Nat) : Int) := by simp
  rw [h4]
  generalize A / 2 ^ from' % 2 ^ n * 2 ^ at' = z at *
  omega

/-- A record's word as a sum; A: the Imm's lowest 32 bits. -/
def Is.wordS (s code three seven rd rs1 rs2 A : Nat) : Nat :=
  match s with
  | 0 => code + rd * 128 + A % 1048576 * 4096
  | 1 => code + rd * 128 + A / 4096 % 256 * 4096 + A / 2048 % 2 * 1048576 + A / 2 % 1024 * 2097152 + A / 1048576 % 2 * 2147483648
  | 2 => code + rd * 128 + three * 4096 + rs1 * 32768 + A % 4096 * 1048576
  | 3 => code + A / 2048 % 2 * 128 + A / 2 % 16 * 256 + three * 4096 + rs1 * 32768 + rs2 * 1048576 + A / 32 % 64 * 33554432 + A / 4096 % 2 * 2147483648
  | 4 => code + A % 32 * 128 + three * 4096 + rs1 * 32768 + rs2 * 1048576 + A / 32 % 128 * 33554432
  | 5 => code + rd * 128 + three * 4096 + rs1 * 32768 + A % 32 * 1048576 + seven * 33554432
  | 6 => code + rd * 128 + three * 4096 + rs1 * 32768 + rs2 * 1048576 + seven * 33554432
  | 8 => code + A % 4096 * 1048576
  | _ => 0
/-- What a form's shape leaves empty. -/
structure Is.Empty (s three seven rd rs1 rs2 : Nat) : Prop where
  rd : s = 3 ∨ s = 4 ∨ s = 7 ∨ s = 8 → rd = 0
  rs1 : s = 0 ∨ s = 1 ∨ s = 7 ∨ s = 8 → rs1 = 0
  rs2 : s = 0 ∨ s = 1 ∨ s = 2 ∨ s = 5 ∨ s = 7 ∨ s = 8 → rs2 = 0
  three : s = 0 ∨ s = 1 ∨ s = 7 ∨ s = 8 → three = 0
  seven : s = 0 ∨ s = 1 ∨ s = 2 ∨ s = 3 ∨ s = 4 ∨ s = 7 ∨ s = 8 → seven = 0

theorem Is.acc_sum (f : Is.Form) (rd rs1 rs2 A : Nat) (h1 : f.code < 128) (h2 : f.three < 8) (h3 : f.seven < 128) (hd : rd < 32) (ha : rs1 < 32) (hb : rs2 < 32) (hA : A < 4294967296) (hs : f.shape ≤ 8) (h7 : f.shape ≠ 7)
    (he : Is.Empty f.shape f.three f.seven rd rs1 rs2) : Is.acc A (Is.base f rd rs1 rs2) (Is.pieces f.shape) = (Is.wordS f.shape f.code f.three f.seven rd rs1 rs2 A : Int) := by
  rw [Is.base_sum f rd rs1 rs2 h1 h2 h3 hd ha hb]
  obtain ⟨nm, s, code, three, seven⟩ := f
  simp only at *
  have hc : s = 0 ∨ s = 1 ∨ s = 2 ∨ s = 3 ∨ s = 4 ∨ s = 5 ∨ s = 6 ∨ s = 8 := by omega
  have pv := fun f n at' => Is.piece_val A f n at' hA
  rcases hc with rfl | rfl | rfl | rfl | rfl | rfl | rfl | rfl
  · obtain rfl := he.rs1 (by simp)
    obtain rfl := he.rs2 (by simp)
    obtain rfl := he.three (by simp)
    obtain rfl := he.seven (by simp)
    show bits .or .u32 _ (Bt.fieldV A ((0 : Nat) : Int) ((20 : Nat) : Int) * 2 ^ ((12 : Nat) : Int).toNat % 4294967296) = _
    rw [pv 0 20 12 (by omega) (by omega) (by omega), Is.or_top _ _ 12 _ rfl (by omega) (by omega)]
    exact Int.natCast_inj.2 (by simp only [Is.wordS]; omega)
  · obtain rfl := he.rs1 (by simp)
    obtain rfl := he.rs2 (by simp)
    obtain rfl := he.three (by simp)
    obtain rfl := he.seven (by simp)
    show bits .or .u32 (bits .or .u32 (bits .or .u32 (bits .or .u32 _ (Bt.fieldV A ((12 : Nat) : Int) ((8 : Nat) : Int) * 2 ^ ((12 : Nat) : Int).toNat % 4294967296)) (Bt.fieldV A ((11 : Nat) : Int) ((1 : Nat) : Int) * 2 ^ ((20 : Nat) : Int).toNat % 4294967296)) (Bt.fieldV A ((1 : Nat) : Int) ((10 : Nat) : Int) * 2 ^ ((21 : Nat) : Int).toNat % 4294967296)) (Bt.fieldV A ((20 : Nat) : Int) ((1 : Nat) : Int) * 2 ^ ((31 : Nat) : Int).toNat % 4294967296) = _
    rw [pv 12 8 12 (by omega) (by omega) (by omega), pv 11 1 20 (by omega) (by omega) (by omega), pv 1 10 21 (by omega) (by omega) (by omega), pv 20 1 31 (by omega) (by omega) (by omega), Is.or_top _ _ 12 _ rfl (by omega) (by omega), Is.or_top _ _ 20 _ rfl (by omega) (by omega), Is.or_top _ _ 21 _ rfl (by omega) (by omega), Is.or_top _ _ 31 _ rfl (by omega) (by omega)]
    exact Int.natCast_inj.2 (by simp only [Is.wordS]; omega)
  · obtain rfl := he.rs2 (by simp)
    obtain rfl := he.seven (by simp)
    show bits .or .u32 _ (Bt.fieldV A ((0 : Nat) : Int) ((12 : Nat) : Int) * 2 ^ ((20 : Nat) : Int).toNat % 4294967296) = _
    rw [pv 0 12 20 (by omega) (by omega) (by omega), Is.or_top _ _ 20 _ rfl (by omega) (by omega)]
    exact Int.natCast_inj.2 (by simp only [Is.wordS]; omega)
  · obtain rfl := he.rd (by simp)
    obtain rfl := he.seven (by simp)
    show bits .or .u32 (bits .or .u32 (bits .or .u32 (bits .or .u32 _ (Bt.fieldV A ((11 : Nat) : Int) ((1 : Nat) : Int) * 2 ^ ((7 : Nat) : Int).toNat % 4294967296)) (Bt.fieldV A ((1 : Nat) : Int) ((4 : Nat) : Int) * 2 ^ ((8 : Nat) : Int).toNat % 4294967296)) (Bt.fieldV A ((5 : Nat) : Int) ((6 : Nat) : Int) * 2 ^ ((25 : Nat) : Int).toNat % 4294967296)) (Bt.fieldV A ((12 : Nat) : Int) ((1 : Nat) : Int) * 2 ^ ((31 : Nat) : Int).toNat % 4294967296) = _
    rw [pv 11 1 7 (by omega) (by omega) (by omega), pv 1 4 8 (by omega) (by omega) (by omega), pv 5 6 25 (by omega) (by omega) (by omega), pv 12 1 31 (by omega) (by omega) (by omega),
      Is.or_any _ _ code (A / 2 ^ 11 % 2 ^ 1) (three + rs1 * 8 + rs2 * 256) 7 12 (by omega) rfl (by omega) (by omega) (by omega),
      Is.or_any _ _ (code + A / 2 ^ 11 % 2 ^ 1 * 2 ^ 7) (A / 2 ^ 1 % 2 ^ 4) (three + rs1 * 8 + rs2 * 256) 8 12 (by omega) rfl (by omega) (by omega) (by omega),
      Is.or_top _ _ 25 _ rfl (by omega) (by omega), Is.or_top _ _ 31 _ rfl (by omega) (by omega)]
    exact Int.natCast_inj.2 (by simp only [Is.wordS]; omega)
  · obtain rfl := he.rd (by simp)
    obtain rfl := he.seven (by simp)
    show bits .or .u32 (bits .or .u32 _ (Bt.fieldV A ((0 : Nat) : Int) ((5 : Nat) : Int) * 2 ^ ((7 : Nat) : Int).toNat % 4294967296)) (Bt.fieldV A ((5 : Nat) : Int) ((7 : Nat) : Int) * 2 ^ ((25 : Nat) : Int).toNat % 4294967296) = _
    rw [pv 0 5 7 (by omega) (by omega) (by omega), pv 5 7 25 (by omega) (by omega) (by omega),
      Is.or_any _ _ code (A / 2 ^ 0 % 2 ^ 5) (three + rs1 * 8 + rs2 * 256) 7 12 (by omega) rfl (by omega) (by omega) (by omega),
      Is.or_top _ _ 25 _ rfl (by omega) (by omega)]
    exact Int.natCast_inj.2 (by simp only [Is.wordS]; omega)
  · obtain rfl := he.rs2 (by simp)
    show bits .or .u32 _ (Bt.fieldV A ((0 : Nat) : Int) ((5 : Nat) : Int) * 2 ^ ((20 : Nat) : Int).toNat % 4294967296) = _
    rw [pv 0 5 20 (by omega) (by omega) (by omega),
      Is.or_any _ _ (code + rd * 128 + three * 4096 + rs1 * 32768) (A / 2 ^ 0 % 2 ^ 5) seven 20 25 (by omega) rfl (by omega) (by omega) (by omega)]
    exact Int.natCast_inj.2 (by simp only [Is.wordS]; omega)
  · rfl
  · obtain rfl := he.rd (by simp)
    obtain rfl := he.rs1 (by simp)
    obtain rfl := he.rs2 (by simp)
    obtain rfl := he.three (by simp)
    obtain rfl := he.seven (by simp)
    show bits .or .u32 _ (Bt.fieldV A ((0 : Nat) : Int) ((12 : Nat) : Int) * 2 ^ ((20 : Nat) : Int).toNat % 4294967296) = _
    rw [pv 0 12 20 (by omega) (by omega) (by omega), Is.or_top _ _ 20 _ rfl (by omega) (by omega)]
    exact Int.natCast_inj.2 (by simp only [Is.wordS]; omega)
end Go.Proofs.YtpcpaoeajcjoiaaGreatDoor
/- Plain: a legal record is decoded as it was; a decoded word is encoded as it was. -/
namespace Go.Proofs.YtpcpaoeajcjoiaaGreatDoor
open Go.RowKit
set_option linter.unusedVariables false
set_option linter.unusedSimpArgs false

abbrev Is.form (n : Nat) : Is.Form := Is.forms.getD n default
theorem Is.shape_form (n : Nat) (h : n < 48) : Is.shape (n : Int) = (Is.form n).shape := by
  have : ∀ k : Fin 48, Is.shape (k.val : Int) = (Is.form k.val).shape := by decide
  exact this ⟨n, h⟩
theorem Is.form_empty (n : Nat) (h : n < 48) : ((Is.form n).shape = 0 ∨ (Is.form n).shape = 1 ∨ (Is.form n).shape = 7 ∨ (Is.form n).shape = 8 → (Is.form n).three = 0) ∧
    ((Is.form n).shape = 0 ∨ (Is.form n).shape = 1 ∨ (Is.form n).shape = 2 ∨ (Is.form n).shape = 3 ∨ (Is.form n).shape = 4 ∨ (Is.form n).shape = 7 ∨ (Is.form n).shape = 8 → (Is.form n).seven = 0) ∧ ((Is.form n).shape = 7 ↔ n = 38 ∨ n = 39) ∧ ((Is.form n).shape = 8 ↔ n = 37) := by
  have : ∀ k : Fin 48, ((Is.form k.val).shape = 0 ∨ (Is.form k.val).shape = 1 ∨ (Is.form k.val).shape = 7 ∨ (Is.form k.val).shape = 8 → (Is.form k.val).three = 0) ∧
    ((Is.form k.val).shape = 0 ∨ (Is.form k.val).shape = 1 ∨ (Is.form k.val).shape = 2 ∨ (Is.form k.val).shape = 3 ∨ (Is.form k.val).shape = 4 ∨ (Is.form k.val).shape = 7 ∨ (Is.form k.val).shape = 8 → (Is.form k.val).seven = 0) ∧ ((Is.form k.val).shape = 7 ↔ k.val = 38 ∨ k.val = 39) ∧ ((Is.form k.val).shape = 8 ↔ k.val = 37) := by decide
  exact this ⟨n, h⟩
theorem Is.regB_true {n : Int} {b : Bool} (h : Is.regB n b = true) : 0 ≤ n ∧ n < 32 ∧ (b = false → n = 0) := by
  simp only [Is.regB, Bool.or_eq_true, decide_eq_true_eq, Bool.and_eq_true] at h
  rcases h with h | ⟨h1, h2, h3⟩
  · exact ⟨by omega, by omega, fun _ => h⟩
  · exact ⟨by omega, by omega, fun k => by rw [k] at h1; cases h1⟩
/-- What a legal record is. -/
structure Is.Good (n rd rs1 rs2 : Nat) (imm : Int) : Prop where
  hn : n < 48
  hrd : rd < 32
  hrs1 : rs1 < 32
  hrs2 : rs2 < 32
  least : (Is.uses ((Is.form n).shape : Int)).least ≤ imm
  most : imm ≤ (Is.uses ((Is.form n).shape : Int)).most
  even : (Is.uses ((Is.form n).shape : Int)).even = true → imm % 2 = 0
  erd : (Is.uses ((Is.form n).shape : Int)).rd = false → rd = 0
  ers1 : (Is.uses ((Is.form n).shape : Int)).rs1 = false → rs1 = 0
  ers2 : (Is.uses ((Is.form n).shape : Int)).rs2 = false → rs2 = 0
theorem Is.legal_good {i : Is.Inst} (h : Is.legal i = true) : ∃ n rd rs1 rs2 : Nat, i = ⟨n, rd, rs1, rs2, i.imm⟩ ∧ Is.Good n rd rs1 rs2 i.imm := by
  have hop := Is.legal_op h
  obtain ⟨op, rd, rs1, rs2, imm⟩ := i
  obtain ⟨n, rfl⟩ := Int.eq_ofNat_of_zero_le hop.1
  have hn : n < 48 := by have h48 : (n : Int) < 48 := hop.2; omega
  simp only [Is.legal, Bool.and_eq_true, decide_eq_true_eq, Bool.or_eq_true, Bool.not_eq_true'] at h
  obtain ⟨h0, h1, h2, h3, h4, h5, h6⟩ := h
  rw [Is.shape_form n hn] at h0 h1 h2 h3 h4 h5 h6
  obtain ⟨a1, a2, a3⟩ := Is.regB_true h1
  obtain ⟨b1, b2, b3⟩ := Is.regB_true h2
  obtain ⟨c1, c2, c3⟩ := Is.regB_true h3
  obtain ⟨rd, rfl⟩ := Int.eq_ofNat_of_zero_le a1
  obtain ⟨rs1, rfl⟩ := Int.eq_ofNat_of_zero_le b1
  obtain ⟨rs2, rfl⟩ := Int.eq_ofNat_of_zero_le c1
  refine ⟨n, rd, rs1, rs2, rfl, hn, by omega, by omega, by omega, h4, h5, fun k => ?_, fun k => by have := a3 k; omega, fun k => by have := b3 k; omega, fun k => by have := c3 k; omega⟩
  rcases h6 with h6 | h6
  · rw [k] at h6; cases h6
  · exact h6
theorem Is.good_legal {n rd rs1 rs2 : Nat} {imm : Int} (g : Is.Good n rd rs1 rs2 imm) : Is.legal ⟨n, rd, rs1, rs2, imm⟩ = true := by
  simp only [Is.legal, Bool.and_eq_true, decide_eq_true_eq, Bool.or_eq_true, Bool.not_eq_true', Is.shape_form n g.hn]
  have r : ∀ (m : Nat) (b : Bool), m < 32 → (b = false → m = 0) → Is.regB (m : Int) b = true := by
    intro m b h1 h2
    simp only [Is.regB, Bool.or_eq_true, decide_eq_true_eq, Bool.and_eq_true]
    cases b
    · left; have := h2 rfl; omega
    · by_cases m = 0
      · left; omega
      · right; exact ⟨rfl, by omega, by omega⟩
  refine ⟨by omega, r _ _ g.hrd g.erd, r _ _ g.hrs1 g.ers1, r _ _ g.hrs2 g.ers2, g.least, g.most, ?_⟩
  cases he : (Is.uses ((Is.form n).shape : Int)).even
  · exact .inl rfl
  · exact .inr (g.even he)
theorem Is.Good.empty {n rd rs1 rs2 : Nat} {imm : Int} (g : Is.Good n rd rs1 rs2 imm) : Is.Empty (Is.form n).shape (Is.form n).three (Is.form n).seven rd rs1 rs2 := by
  have e := Is.form_empty n g.hn
  have a := g.erd; have b := g.ers1; have c := g.ers2
  generalize (Is.form n).shape = s at *
  refine ⟨fun h => a ?_, fun h => b ?_, fun h => c ?_, e.1, e.2.1⟩
  · rcases h with rfl | rfl | rfl | rfl <;> rfl
  · rcases h with rfl | rfl | rfl | rfl <;> rfl
  · rcases h with rfl | rfl | rfl | rfl | rfl | rfl <;> rfl
/-- A record's word. -/
def Is.word (n rd rs1 rs2 : Nat) (imm : Int) : Nat :=
  if n = 38 then 115 else if n = 39 then 1048691 else Is.wordS (Is.form n).shape (Is.form n).code (Is.form n).three (Is.form n).seven rd rs1 rs2 (imm % 4294967296).toNat
theorem Is.enc_word {n rd rs1 rs2 : Nat} {imm : Int} (g : Is.Good n rd rs1 rs2 imm) : Is.enc ⟨n, rd, rs1, rs2, imm⟩ = (((Is.word n rd rs1 rs2 imm : Nat) : Int), (0 : Int)) := by
  rw [Is.enc, if_pos (Is.good_legal g)]
  simp only [Int.toNat_natCast]
  unfold Is.encV Is.word
  by_cases h38 : n = 38
  · rw [if_pos h38, if_pos h38]; rfl
  · by_cases h39 : n = 39
    · rw [if_neg h38, if_neg h38, if_pos h39, if_pos h39]; rfl
    · rw [if_neg h38, if_neg h38, if_neg h39, if_neg h39]
      have hb := Is.form_bd n g.hn
      have h7 : (Is.form n).shape ≠ 7 := fun k => by rcases (Is.form_empty n g.hn).2.2.1.1 k with k | k <;> omega
      rw [Is.acc_sum (Is.form n) rd rs1 rs2 (imm % 4294967296).toNat hb.2.1 hb.2.2.1 hb.2.2.2 g.hrd g.hrs1 g.hrs2 (by omega) hb.1 h7 g.empty]

end Go.Proofs.YtpcpaoeajcjoiaaGreatDoor
