/- Texts joined: IsPlain, IsBack, IsFwd. -/
import Derived.Test.YtfafdkbnmfpbmaaGreatDoorIsEncode
import Derived.Test.YtfafdkbnmfpbmaaGreatDoorIsDec
/- Plain: a legal record's word as a sum. -/
namespace Go.Proofs.YtfafdkbnmfpbmaaGreatDoor
open Go.RowKit
set_option linter.unusedVariables false
set_option linter.unusedSimpArgs false

theorem Is.or_mid (lo p hi k m : Nat) (h1 : lo < 2 ^ k) (h2 : lo + p * 2 ^ k < 2 ^ m) (hs : lo + p * 2 ^ k + hi * 2 ^ m < 4294967296) :
    bits .or .u32 ((lo + hi * 2 ^ m : Nat) : Int) ((p * 2 ^ k : Nat) : Int) = ((lo + p * 2 ^ k + hi * 2 ^ m : Nat) : Int) := by
  have hlt : lo < 2 ^ m := by omega
  have e1 : lo ||| hi * 2 ^ m = lo + hi * 2 ^ m := by
    have h := Nat.two_pow_add_eq_or_of_lt (i := m) hlt hi
    rw [Nat.or_comm, Nat.mul_comm hi, ← h, Nat.add_comm]
  have e2 : lo ||| p * 2 ^ k = lo + p * 2 ^ k := by
    have h := Nat.two_pow_add_eq_or_of_lt (i := k) h1 p
    rw [Nat.or_comm, Nat.mul_comm p, ← h, Nat.add_comm]
  have e3 : (lo + p * 2 ^ k) ||| hi * 2 ^ m = lo + p * 2 ^ k + hi * 2 ^ m := by
    have h := Nat.two_pow_add_eq_or_of_lt (i := m) h2 hi
    rw [Nat.or_comm, Nat.mul_comm hi, ← h, Nat.add_comm]
  have e : (lo + hi * 2 ^ m) ||| p * 2 ^ k = lo + p * 2 ^ k + hi * 2 ^ m := by
    rw [← e1, Nat.or_assoc, Nat.or_comm (hi * 2 ^ m), ← Nat.or_assoc, e2, e3]
  have l1 : lo + hi * 2 ^ m < 4294967296 := by omega
  have l2 : p * 2 ^ k < 4294967296 := by omega
  have h3 : (BitVec.ofInt 32 ((lo + hi * 2 ^ m : Nat) : Int)).toNat = lo + hi * 2 ^ m := by rw [BitVec.ofInt_natCast, BitVec.toNat_ofNat]; exact Nat.mod_eq_of_lt (by omega)
  have h4 : (BitVec.ofInt 32 ((p * 2 ^ k : Nat) : Int)).toNat = p * 2 ^ k := by rw [BitVec.ofInt_natCast, BitVec.toNat_ofNat]; exact Nat.mod_eq_of_lt (by omega)
  show IntKind.u32.wrap ((BitVec.ofInt 32 ((lo + hi * 2 ^ m : Nat) : Int) ||| BitVec.ofInt 32 ((p * 2 ^ k : Nat) : Int)).toNat : Int) = _
  rw [BitVec.toNat_or, h3, h4, e, IntKind.wrap_u32]; omega
/-- The same, with the terms as they come. -/
theorem Is.or_any (X Y lo p hi k m : Nat) (hX : X = lo + hi * 2 ^ m) (hY : Y = p * 2 ^ k) (h1 : lo < 2 ^ k) (h2 : lo + p * 2 ^ k < 2 ^ m) (hs : lo + p * 2 ^ k + hi * 2 ^ m < 4294967296) :
    bits .or .u32 (X : Int) (Y : Int) = ((X + Y : Nat) : Int) := by
  subst hX hY
  rw [Is.or_mid lo p hi k m h1 h2 hs]
  congr 1; omega
theorem Is.or_top (X Y k p : Nat) (hY : Y = p * 2 ^ k) (h1 : X < 2 ^ k) (hs : X + Y < 4294967296) : bits .or .u32 (X : Int) (Y : Int) = ((X + Y : Nat) : Int) := by
  subst hY
  exact Is.or_u32 X p k h1 hs

theorem Is.base_sum (f : Is.Form) (rd rs1 rs2 : Nat) (h1 : f.code < 128) (h2 : f.three < 8) (h3 : f.seven < 128) (hd : rd < 32) (ha : rs1 < 32) (hb : rs2 < 32) :
    Is.base f rd rs1 rs2 = ((f.code + rd * 128 + f.three * 4096 + rs1 * 32768 + rs2 * 1048576 + f.seven * 33554432 : Nat) : Int) := by
  unfold Is.base
  have e1 : (rd : Int) % 4294967296 * 128 % 4294967296 = ((rd * 128 : Nat) : Int) := by omega
  have e2 : (f.three : Int) * 4096 = ((f.three * 4096 : Nat) : Int) := by omega
  have e3 : (rs1 : Int) % 4294967296 * 32768 % 4294967296 = ((rs1 * 32768 : Nat) : Int) := by omega
  have e4 : (rs2 : Int) % 4294967296 * 1048576 % 4294967296 = ((rs2 * 1048576 : Nat) : Int) := by omega
  have e5 : (f.seven : Int) * 33554432 = ((f.seven * 33554432 : Nat) : Int) := by omega
  rw [e1, e2, e3, e4, e5, Is.or_top _ _ 7 rd rfl (by omega) (by omega), Is.or_top _ _ 12 f.three rfl (by omega) (by omega), Is.or_top _ _ 15 rs1 rfl (by omega) (by omega), Is.or_top _ _ 20 rs2 rfl (by omega) (by omega), Is.or_top _ _ 25 f.seven rfl (by omega) (by omega)]

/-- One piece. -/
theorem Is.piece_val (A from' n at' : Nat) (hA : A < 4294967296) (hn : 1 ≤ n) (hf : from' + n ≤ 32) (ha : at' + n ≤ 32) :
    Bt.fieldV A (from' : Int) (n : Int) * 2 ^ (at' : Int).toNat % 4294967296 = ((A / 2 ^ from' % 2 ^ n * 2 ^ at' : Nat) : Int) := by
  rw [Bt.fieldV, if_pos ⟨by omega, by omega, by omega, by omega⟩]
  simp only [Int.toNat_natCast]
  have h1 : A / 2 ^ from' % 2 ^ n < 2 ^ n := Nat.mod_lt _ (Nat.two_pow_pos n)
  have h2 : A / 2 ^ from' % 2 ^ n * 2 ^ at' < 2 ^ n * 2 ^ at' := Nat.mul_lt_mul_of_pos_right h1 (Nat.two_pow_pos _)
  have h3 : 2 ^ n * 2 ^ at' ≤ 2 ^ 32 := by rw [← Nat.pow_add]; exact Nat.pow_le_pow_right (by omega) (by omega)
  have h4 : ((A / 2 ^ from' % 2 ^ n : Nat) : Int) * 2 ^ at' = ((A / 2 ^ from' % 2 ^ n * 2 ^ at' : Nat) : Int) := by simp
  rw [h4]
  generalize A / 2 ^ from' % 2 ^ n * 2 ^ at' = z at *
  omega

/-- A record's word as a sum; A: the Imm's lowest 32 bits. -/
def Is.wordS (s code three seven rd rs1 rs2 A : Nat) : Nat :=
  match s with
  | 0 => code + rd * 128 + A % 1048576 * 4096
  | 1 => code + rd * 128 + A / 4096 % 256 * 4096 + A / 2048 % 2 * 1048576 + A / 2 % 1024 * 2097152 + A / 1048576 % 2 * 2147483648
  | 2 => code + rd * 128 + three * 4096 + rs1 * 32768 + A % 4096 * 1048576
  | 3 => code + A / 2048 % 2 * 128 + A / 2 % 16 * 256 + three * 4096 + rs1 * 32768 + rs2 * 1048576 + A / 32 % 64 * 33554432 + A / 4096 % 2 * 2147483648
  | 4 => code + A % 32 * 128 + three * 4096 + rs1 * 32768 + rs2 * 1048576 + A / 32 % 128 * 33554432
  | 5 => code + rd * 128 + three * 4096 + rs1 * 32768 + A % 32 * 1048576 + seven * 33554432
  | 6 => code + rd * 128 + three * 4096 + rs1 * 32768 + rs2 * 1048576 + seven * 33554432
  | 8 => code + A % 4096 * 1048576
  | _ => 0
/-- What a form's shape leaves empty. -/
structure Is.Empty (s three seven rd rs1 rs2 : Nat) : Prop where
  rd : s = 3 ∨ s = 4 ∨ s = 7 ∨ s = 8 → rd = 0
  rs1 : s = 0 ∨ s = 1 ∨ s = 7 ∨ s = 8 → rs1 = 0
  rs2 : s = 0 ∨ s = 1 ∨ s = 2 ∨ s = 5 ∨ s = 7 ∨ s = 8 → rs2 = 0
  three : s = 0 ∨ s = 1 ∨ s = 7 ∨ s = 8 → three = 0
  seven : s = 0 ∨ s = 1 ∨ s = 2 ∨ s = 3 ∨ s = 4 ∨ s = 7 ∨ s = 8 → seven = 0

theorem Is.acc_sum (f : Is.Form) (rd rs1 rs2 A : Nat) (h1 : f.code < 128) (h2 : f.three < 8) (h3 : f.seven < 128) (hd : rd < 32) (ha : rs1 < 32) (hb : rs2 < 32) (hA : A < 4294967296) (hs : f.shape ≤ 8) (h7 : f.shape ≠ 7)
    (he : Is.Empty f.shape f.three f.seven rd rs1 rs2) : Is.acc A (Is.base f rd rs1 rs2) (Is.pieces f.shape) = (Is.wordS f.shape f.code f.three f.seven rd rs1 rs2 A : Int) := by
  rw [Is.base_sum f rd rs1 rs2 h1 h2 h3 hd ha hb]
  obtain ⟨nm, s, code, three, seven⟩ := f
  simp only at *
  have hc : s = 0 ∨ s = 1 ∨ s = 2 ∨ s = 3 ∨ s = 4 ∨ s = 5 ∨ s = 6 ∨ s = 8 := by omega
  have pv := fun f n at' => Is.piece_val A f n at' hA
  rcases hc with rfl | rfl | rfl | rfl | rfl | rfl | rfl | rfl
  · obtain rfl := he.rs1 (by simp)
    obtain rfl := he.rs2 (by simp)
    obtain rfl := he.three (by simp)
    obtain rfl := he.seven (by simp)
    show bits .or .u32 _ (Bt.fieldV A ((0 : Nat) : Int) ((20 : Nat) : Int) * 2 ^ ((12 : Nat) : Int).toNat % 4294967296) = _
    rw [pv 0 20 12 (by omega) (by omega) (by omega), Is.or_top _ _ 12 _ rfl (by omega) (by omega)]
    exact Int.natCast_inj.2 (by simp only [Is.wordS]; omega)
  · obtain rfl := he.rs1 (by simp)
    obtain rfl := he.rs2 (by simp)
    obtain rfl := he.three (by simp)
    obtain rfl := he.seven (by simp)
    show bits .or .u32 (bits .or .u32 (bits .or .u32 (bits .or .u32 _ (Bt.fieldV A ((12 : Nat) : Int) ((8 : Nat) : Int) * 2 ^ ((12 : Nat) : Int).toNat % 4294967296)) (Bt.fieldV A ((11 : Nat) : Int) ((1 : Nat) : Int) * 2 ^ ((20 : Nat) : Int).toNat % 4294967296)) (Bt.fieldV A ((1 : Nat) : Int) ((10 : Nat) : Int) * 2 ^ ((21 : Nat) : Int).toNat % 4294967296)) (Bt.fieldV A ((20 : Nat) : Int) ((1 : Nat) : Int) * 2 ^ ((31 : Nat) : Int).toNat % 4294967296) = _
    rw [pv 12 8 12 (by omega) (by omega) (by omega), pv 11 1 20 (by omega) (by omega) (by omega), pv 1 10 21 (by omega) (by omega) (by omega), pv 20 1 31 (by omega) (by omega) (by omega), Is.or_top _ _ 12 _ rfl (by omega) (by omega), Is.or_top _ _ 20 _ rfl (by omega) (by omega), Is.or_top _ _ 21 _ rfl (by omega) (by omega), Is.or_top _ _ 31 _ rfl (by omega) (by omega)]
    exact Int.natCast_inj.2 (by simp only [Is.wordS]; omega)
  · obtain rfl := he.rs2 (by simp)
    obtain rfl := he.seven (by simp)
    show bits .or .u32 _ (Bt.fieldV A ((0 : Nat) : Int) ((12 : Nat) : Int) * 2 ^ ((20 : Nat) : Int).toNat % 4294967296) = _
    rw [pv 0 12 20 (by omega) (by omega) (by omega), Is.or_top _ _ 20 _ rfl (by omega) (by omega)]
    exact Int.natCast_inj.2 (by simp only [Is.wordS]; omega)
  · obtain rfl := he.rd (by simp)
    obtain rfl := he.seven (by simp)
    show bits .or .u32 (bits .or .u32 (bits .or .u32 (bits .or .u32 _ (Bt.fieldV A ((11 : Nat) : Int) ((1 : Nat) : Int) * 2 ^ ((7 : Nat) : Int).toNat % 4294967296)) (Bt.fieldV A ((1 : Nat) : Int) ((4 : Nat) : Int) * 2 ^ ((8 : Nat) : Int).toNat % 4294967296)) (Bt.fieldV A ((5 : Nat) : Int) ((6 : Nat) : Int) * 2 ^ ((25 : Nat) : Int).toNat % 4294967296)) (Bt.fieldV A ((12 : Nat) : Int) ((1 : Nat) : Int) * 2 ^ ((31 : Nat) : Int).toNat % 4294967296) = _
    rw [pv 11 1 7 (by omega) (by omega) (by omega), pv 1 4 8 (by omega) (by omega) (by omega), pv 5 6 25 (by omega) (by omega) (by omega), pv 12 1 31 (by omega) (by omega) (by omega),
      Is.or_any _ _ code (A / 2 ^ 11 % 2 ^ 1) (three + rs1 * 8 + rs2 * 256) 7 12 (by omega) rfl (by omega) (by omega) (by omega),
      Is.or_any _ _ (code + A / 2 ^ 11 % 2 ^ 1 * 2 ^ 7) (A / 2 ^ 1 % 2 ^ 4) (three + rs1 * 8 + rs2 * 256) 8 12 (by omega) rfl (by omega) (by omega) (by omega),
      Is.or_top _ _ 25 _ rfl (by omega) (by omega), Is.or_top _ _ 31 _ rfl (by omega) (by omega)]
    exact Int.natCast_inj.2 (by simp only [Is.wordS]; omega)
  · obtain rfl := he.rd (by simp)
    obtain rfl := he.seven (by simp)
    show bits .or .u32 (bits .or .u32 _ (Bt.fieldV A ((0 : Nat) : Int) ((5 : Nat) : Int) * 2 ^ ((7 : Nat) : Int).toNat % 4294967296)) (Bt.fieldV A ((5 : Nat) : Int) ((7 : Nat) : Int) * 2 ^ ((25 : Nat) : Int).toNat % 4294967296) = _
    rw [pv 0 5 7 (by omega) (by omega) (by omega), pv 5 7 25 (by omega) (by omega) (by omega),
      Is.or_any _ _ code (A / 2 ^ 0 % 2 ^ 5) (three + rs1 * 8 + rs2 * 256) 7 12 (by omega) rfl (by omega) (by omega) (by omega),
      Is.or_top _ _ 25 _ rfl (by omega) (by omega)]
    exact Int.natCast_inj.2 (by simp only [Is.wordS]; omega)
  · obtain rfl := he.rs2 (by simp)
    show bits .or .u32 _ (Bt.fieldV A ((0 : Nat) : Int) ((5 : Nat) : Int) * 2 ^ ((20 : Nat) : Int).toNat % 4294967296) = _
    rw [pv 0 5 20 (by omega) (by omega) (by omega),
      Is.or_any _ _ (code + rd * 128 + three * 4096 + rs1 * 32768) (A / 2 ^ 0 % 2 ^ 5) seven 20 25 (by omega) rfl (by omega) (by omega) (by omega)]
    exact Int.natCast_inj.2 (by simp only [Is.wordS]; omega)
  · rfl
  · obtain rfl := he.rd (by simp)
    obtain rfl := he.rs1 (by simp)
    obtain rfl := he.rs2 (by simp)
    obtain rfl := he.three (by simp)
    obtain rfl := he.seven (by simp)
    show bits .or .u32 _ (Bt.fieldV A ((0 : Nat) : Int) ((12 : Nat) : Int) * 2 ^ ((20 : Nat) : Int).toNat % 4294967296) = _
    rw [pv 0 12 20 (by omega) (by omega) (by omega), Is.or_top _ _ 20 _ rfl (by omega) (by omega)]
    exact Int.natCast_inj.2 (by simp only [Is.wordS]; omega)
end Go.Proofs.YtfafdkbnmfpbmaaGreatDoor
/- Plain: a legal record is decoded as it was; a decoded word is encoded as it was. -/
namespace Go.Proofs.YtfafdkbnmfpbmaaGreatDoor
open Go.RowKit
set_option linter.unusedVariables false
set_option linter.unusedSimpArgs false

abbrev Is.form (n : Nat) : Is.Form := Is.forms.getD n default
theorem Is.shape_form (n : Nat) (h : n < 48) : Is.shape (n : Int) = (Is.form n).shape := by
  have : ∀ k : Fin 48, Is.shape (k.val : Int) = (Is.form k.val).shape := by decide
  exact this ⟨n, h⟩
theorem Is.form_empty (n : Nat) (h : n < 48) : ((Is.form n).shape = 0 ∨ (Is.form n).shape = 1 ∨ (Is.form n).shape = 7 ∨ (Is.form n).shape = 8 → (Is.form n).three = 0) ∧
    ((Is.form n).shape = 0 ∨ (Is.form n).shape = 1 ∨ (Is.form n).shape = 2 ∨ (Is.form n).shape = 3 ∨ (Is.form n).shape = 4 ∨ (Is.form n).shape = 7 ∨ (Is.form n).shape = 8 → (Is.form n).seven = 0) ∧ ((Is.form n).shape = 7 ↔ n = 38 ∨ n = 39) ∧ ((Is.form n).shape = 8 ↔ n = 37) := by
  have : ∀ k : Fin 48, ((Is.form k.val).shape = 0 ∨ (Is.form k.val).shape = 1 ∨ (Is.form k.val).shape = 7 ∨ (Is.form k.val).shape = 8 → (Is.form k.val).three = 0) ∧
    ((Is.form k.val).shape = 0 ∨ (Is.form k.val).shape = 1 ∨ (Is.form k.val).shape = 2 ∨ (Is.form k.val).shape = 3 ∨ (Is.form k.val).shape = 4 ∨ (Is.form k.val).shape = 7 ∨ (Is.form k.val).shape = 8 → (Is.form k.val).seven = 0) ∧ ((Is.form k.val).shape = 7 ↔ k.val = 38 ∨ k.val = 39) ∧ ((Is.form k.val).shape = 8 ↔ k.val = 37) := by decide
  exact this ⟨n, h⟩
theorem Is.regB_true {n : Int} {b : Bool} (h : Is.regB n b = true) : 0 ≤ n ∧ n < 32 ∧ (b = false → n = 0) := by
  simp only [Is.regB, Bool.or_eq_true, decide_eq_true_eq, Bool.and_eq_true] at h
  rcases h with h | ⟨h1, h2, h3⟩
  · exact ⟨by omega, by omega, fun _ => h⟩
  · exact ⟨by omega, by omega, fun k => by rw [k] at h1; cases h1⟩
/-- What a legal record is. -/
structure Is.Good (n rd rs1 rs2 : Nat) (imm : Int) : Prop where
  hn : n < 48
  hrd : rd < 32
  hrs1 : rs1 < 32
  hrs2 : rs2 < 32
  least : (Is.uses ((Is.form n).shape : Int)).least ≤ imm
  most : imm ≤ (Is.uses ((Is.form n).shape : Int)).most
  even : (Is.uses ((Is.form n).shape : Int)).even = true → imm % 2 = 0
  erd : (Is.uses ((Is.form n).shape : Int)).rd = false → rd = 0
  ers1 : (Is.uses ((Is.form n).shape : Int)).rs1 = false → rs1 = 0
  ers2 : (Is.uses ((Is.form n).shape : Int)).rs2 = false → rs2 = 0
theorem Is.legal_good {i : Is.Inst} (h : Is.legal i = true) : ∃ n rd rs1 rs2 : Nat, i = ⟨n, rd, rs1, rs2, i.imm⟩ ∧ Is.Good n rd rs1 rs2 i.imm := by
  have hop := Is.legal_op h
  obtain ⟨op, rd, rs1, rs2, imm⟩ := i
  obtain ⟨n, rfl⟩ := Int.eq_ofNat_of_zero_le hop.1
  have hn : n < 48 := by have h48 : (n : Int) < 48 := hop.2; omega
  simp only [Is.legal, Bool.and_eq_true, decide_eq_true_eq, Bool.or_eq_true, Bool.not_eq_true'] at h
  obtain ⟨h0, h1, h2, h3, h4, h5, h6⟩ := h
  rw [Is.shape_form n hn] at h0 h1 h2 h3 h4 h5 h6
  obtain ⟨a1, a2, a3⟩ := Is.regB_true h1
  obtain ⟨b1, b2, b3⟩ := Is.regB_true h2
  obtain ⟨c1, c2, c3⟩ := Is.regB_true h3
  obtain ⟨rd, rfl⟩ := Int.eq_ofNat_of_zero_le a1
  obtain ⟨rs1, rfl⟩ := Int.eq_ofNat_of_zero_le b1
  obtain ⟨rs2, rfl⟩ := Int.eq_ofNat_of_zero_le c1
  refine ⟨n, rd, rs1, rs2, rfl, hn, by omega, by omega, by omega, h4, h5, fun k => ?_, fun k => by have := a3 k; omega, fun k => by have := b3 k; omega, fun k => by have := c3 k; omega⟩
  rcases h6 with h6 | h6
  · rw [k] at h6; cases h6
  · exact h6
theorem Is.good_legal {n rd rs1 rs2 : Nat} {imm : Int} (g : Is.Good n rd rs1 rs2 imm) : Is.legal ⟨n, rd, rs1, rs2, imm⟩ = true := by
  simp only [Is.legal, Bool.and_eq_true, decide_eq_true_eq, Bool.or_eq_true, Bool.not_eq_true', Is.shape_form n g.hn]
  have r : ∀ (m : Nat) (b : Bool), m < 32 → (b = false → m = 0) → Is.regB (m : Int) b = true := by
    intro m b h1 h2
    simp only [Is.regB, Bool.or_eq_true, decide_eq_true_eq, Bool.and_eq_true]
    cases b
    · left; have := h2 rfl; omega
    · by_cases m = 0
      · left; omega
      · right; exact ⟨rfl, by omega, by omega⟩
  refine ⟨by omega, r _ _ g.hrd g.erd, r _ _ g.hrs1 g.ers1, r _ _ g.hrs2 g.ers2, g.least, g.most, ?_⟩
  cases he : (Is.uses ((Is.form n).shape : Int)).even
  · exact .inl rfl
  · exact .inr (g.even he)
theorem Is.form_shapes (n : Nat) (h : n < 48) : (Is.form n).shape ≤ 8 := (Is.form_bd n h).1
theorem Is.Good.empty {n rd rs1 rs2 : Nat} {imm : Int} (g : Is.Good n rd rs1 rs2 imm) : Is.Empty (Is.form n).shape (Is.form n).three (Is.form n).seven rd rs1 rs2 := by
  have e := Is.form_empty n g.hn
  have a := g.erd; have b := g.ers1; have c := g.ers2
  generalize (Is.form n).shape = s at *
  refine ⟨fun h => a ?_, fun h => b ?_, fun h => c ?_, e.1, e.2.1⟩
  · rcases h with rfl | rfl | rfl | rfl <;> rfl
  · rcases h with rfl | rfl | rfl | rfl <;> rfl
  · rcases h with rfl | rfl | rfl | rfl | rfl | rfl <;> rfl
/-- A record's word. -/
def Is.word (n rd rs1 rs2 : Nat) (imm : Int) : Nat :=
  if n = 38 then 115 else if n = 39 then 1048691 else Is.wordS (Is.form n).shape (Is.form n).code (Is.form n).three (Is.form n).seven rd rs1 rs2 (imm % 4294967296).toNat
theorem Is.enc_word {n rd rs1 rs2 : Nat} {imm : Int} (g : Is.Good n rd rs1 rs2 imm) : Is.enc ⟨n, rd, rs1, rs2, imm⟩ = (((Is.word n rd rs1 rs2 imm : Nat) : Int), (0 : Int)) := by
  rw [Is.enc, if_pos (Is.good_legal g)]
  simp only [Int.toNat_natCast]
  unfold Is.encV Is.word
  by_cases h38 : n = 38
  · rw [if_pos h38, if_pos h38]; rfl
  · by_cases h39 : n = 39
    · rw [if_neg h38, if_neg h38, if_pos h39, if_pos h39]; rfl
    · rw [if_neg h38, if_neg h38, if_neg h39, if_neg h39]
      have hb := Is.form_bd n g.hn
      have h7 : (Is.form n).shape ≠ 7 := fun k => by rcases (Is.form_empty n g.hn).2.2.1.1 k with k | k <;> omega
      rw [Is.acc_sum (Is.form n) rd rs1 rs2 (imm % 4294967296).toNat hb.2.1 hb.2.2.1 hb.2.2.2 g.hrd g.hrs1 g.hrs2 (by omega) hb.1 h7 g.empty]

/-- A form is found by its bits. -/
theorem Is.find_form (n x : Nat) (hn : n < 48) (h38 : n ≠ 38) (h39 : n ≠ 39) (h1 : x % 128 = (Is.form n).code) (h2 : (Is.form n).shape = 2 ∨ (Is.form n).shape = 3 ∨ (Is.form n).shape = 4 ∨ (Is.form n).shape = 5 ∨ (Is.form n).shape = 6 → x / 4096 % 8 = (Is.form n).three)
    (h3 : (Is.form n).shape = 5 ∨ (Is.form n).shape = 6 → x / 33554432 = (Is.form n).seven) (h4 : (Is.form n).shape = 8 → x % 1048576 = 15) : Is.find x = n := by
  unfold Is.find
  match n, hn with
  | 0, _ => first | (have h1 : x % 128 = _ := h1; simp [h1, Is.form, Is.forms]; done) | (have h2' := h2 (by decide); simp [h1, h2', Is.form, Is.forms, Is.one, Is.small, Is.row_jalr, Is.row_branch, Is.row_load, Is.row_store, Is.row_imm]; done) | (have h2' := h2 (by decide); have h3' := h3 (by decide); simp [h1, h2', h3', Is.form, Is.forms, Is.one, Is.small, Is.alu, Is.row_imm, Is.row_reg0, Is.row_reg32]; done) | (have h4' := h4 (by decide); simp [h1, h4', Is.form, Is.forms]; done)
  | 1, _ => first | (have h1 : x % 128 = _ := h1; simp [h1, Is.form, Is.forms]; done) | (have h2' := h2 (by decide); simp [h1, h2', Is.form, Is.forms, Is.one, Is.small, Is.row_jalr, Is.row_branch, Is.row_load, Is.row_store, Is.row_imm]; done) | (have h2' := h2 (by decide); have h3' := h3 (by decide); simp [h1, h2', h3', Is.form, Is.forms, Is.one, Is.small, Is.alu, Is.row_imm, Is.row_reg0, Is.row_reg32]; done) | (have h4' := h4 (by decide); simp [h1, h4', Is.form, Is.forms]; done)
  | 2, _ => first | (have h1 : x % 128 = _ := h1; simp [h1, Is.form, Is.forms]; done) | (have h2' := h2 (by decide); simp [h1, h2', Is.form, Is.forms, Is.one, Is.small, Is.row_jalr, Is.row_branch, Is.row_load, Is.row_store, Is.row_imm]; done) | (have h2' := h2 (by decide); have h3' := h3 (by decide); simp [h1, h2', h3', Is.form, Is.forms, Is.one, Is.small, Is.alu, Is.row_imm, Is.row_reg0, Is.row_reg32]; done) | (have h4' := h4 (by decide); simp [h1, h4', Is.form, Is.forms]; done)
  | 3, _ => first | (have h1 : x % 128 = _ := h1; simp [h1, Is.form, Is.forms]; done) | (have h2' := h2 (by decide); simp [h1, h2', Is.form, Is.forms, Is.one, Is.small, Is.row_jalr, Is.row_branch, Is.row_load, Is.row_store, Is.row_imm]; done) | (have h2' := h2 (by decide); have h3' := h3 (by decide); simp [h1, h2', h3', Is.form, Is.forms, Is.one, Is.small, Is.alu, Is.row_imm, Is.row_reg0, Is.row_reg32]; done) | (have h4' := h4 (by decide); simp [h1, h4', Is.form, Is.forms]; done)
  | 4, _ => first | (have h1 : x % 128 = _ := h1; simp [h1, Is.form, Is.forms]; done) | (have h2' := h2 (by decide); simp [h1, h2', Is.form, Is.forms, Is.one, Is.small, Is.row_jalr, Is.row_branch, Is.row_load, Is.row_store, Is.row_imm]; done) | (have h2' := h2 (by decide); have h3' := h3 (by decide); simp [h1, h2', h3', Is.form, Is.forms, Is.one, Is.small, Is.alu, Is.row_imm, Is.row_reg0, Is.row_reg32]; done) | (have h4' := h4 (by decide); simp [h1, h4', Is.form, Is.forms]; done)
  | 5, _ => first | (have h1 : x % 128 = _ := h1; simp [h1, Is.form, Is.forms]; done) | (have h2' := h2 (by decide); simp [h1, h2', Is.form, Is.forms, Is.one, Is.small, Is.row_jalr, Is.row_branch, Is.row_load, Is.row_store, Is.row_imm]; done) | (have h2' := h2 (by decide); have h3' := h3 (by decide); simp [h1, h2', h3', Is.form, Is.forms, Is.one, Is.small, Is.alu, Is.row_imm, Is.row_reg0, Is.row_reg32]; done) | (have h4' := h4 (by decide); simp [h1, h4', Is.form, Is.forms]; done)
  | 6, _ => first | (have h1 : x % 128 = _ := h1; simp [h1, Is.form, Is.forms]; done) | (have h2' := h2 (by decide); simp [h1, h2', Is.form, Is.forms, Is.one, Is.small, Is.row_jalr, Is.row_branch, Is.row_load, Is.row_store, Is.row_imm]; done) | (have h2' := h2 (by decide); have h3' := h3 (by decide); simp [h1, h2', h3', Is.form, Is.forms, Is.one, Is.small, Is.alu, Is.row_imm, Is.row_reg0, Is.row_reg32]; done) | (have h4' := h4 (by decide); simp [h1, h4', Is.form, Is.forms]; done)
  | 7, _ => first | (have h1 : x % 128 = _ := h1; simp [h1, Is.form, Is.forms]; done) | (have h2' := h2 (by decide); simp [h1, h2', Is.form, Is.forms, Is.one, Is.small, Is.row_jalr, Is.row_branch, Is.row_load, Is.row_store, Is.row_imm]; done) | (have h2' := h2 (by decide); have h3' := h3 (by decide); simp [h1, h2', h3', Is.form, Is.forms, Is.one, Is.small, Is.alu, Is.row_imm, Is.row_reg0, Is.row_reg32]; done) | (have h4' := h4 (by decide); simp [h1, h4', Is.form, Is.forms]; done)
  | 8, _ => first | (have h1 : x % 128 = _ := h1; simp [h1, Is.form, Is.forms]; done) | (have h2' := h2 (by decide); simp [h1, h2', Is.form, Is.forms, Is.one, Is.small, Is.row_jalr, Is.row_branch, Is.row_load, Is.row_store, Is.row_imm]; done) | (have h2' := h2 (by decide); have h3' := h3 (by decide); simp [h1, h2', h3', Is.form, Is.forms, Is.one, Is.small, Is.alu, Is.row_imm, Is.row_reg0, Is.row_reg32]; done) | (have h4' := h4 (by decide); simp [h1, h4', Is.form, Is.forms]; done)
  | 9, _ => first | (have h1 : x % 128 = _ := h1; simp [h1, Is.form, Is.forms]; done) | (have h2' := h2 (by decide); simp [h1, h2', Is.form, Is.forms, Is.one, Is.small, Is.row_jalr, Is.row_branch, Is.row_load, Is.row_store, Is.row_imm]; done) | (have h2' := h2 (by decide); have h3' := h3 (by decide); simp [h1, h2', h3', Is.form, Is.forms, Is.one, Is.small, Is.alu, Is.row_imm, Is.row_reg0, Is.row_reg32]; done) | (have h4' := h4 (by decide); simp [h1, h4', Is.form, Is.forms]; done)
  | 10, _ => first | (have h1 : x % 128 = _ := h1; simp [h1, Is.form, Is.forms]; done) | (have h2' := h2 (by decide); simp [h1, h2', Is.form, Is.forms, Is.one, Is.small, Is.row_jalr, Is.row_branch, Is.row_load, Is.row_store, Is.row_imm]; done) | (have h2' := h2 (by decide); have h3' := h3 (by decide); simp [h1, h2', h3', Is.form, Is.forms, Is.one, Is.small, Is.alu, Is.row_imm, Is.row_reg0, Is.row_reg32]; done) | (have h4' := h4 (by decide); simp [h1, h4', Is.form, Is.forms]; done)
  | 11, _ => first | (have h1 : x % 128 = _ := h1; simp [h1, Is.form, Is.forms]; done) | (have h2' := h2 (by decide); simp [h1, h2', Is.form, Is.forms, Is.one, Is.small, Is.row_jalr, Is.row_branch, Is.row_load, Is.row_store, Is.row_imm]; done) | (have h2' := h2 (by decide); have h3' := h3 (by decide); simp [h1, h2', h3', Is.form, Is.forms, Is.one, Is.small, Is.alu, Is.row_imm, Is.row_reg0, Is.row_reg32]; done) | (have h4' := h4 (by decide); simp [h1, h4', Is.form, Is.forms]; done)
  | 12, _ => first | (have h1 : x % 128 = _ := h1; simp [h1, Is.form, Is.forms]; done) | (have h2' := h2 (by decide); simp [h1, h2', Is.form, Is.forms, Is.one, Is.small, Is.row_jalr, Is.row_branch, Is.row_load, Is.row_store, Is.row_imm]; done) | (have h2' := h2 (by decide); have h3' := h3 (by decide); simp [h1, h2', h3', Is.form, Is.forms, Is.one, Is.small, Is.alu, Is.row_imm, Is.row_reg0, Is.row_reg32]; done) | (have h4' := h4 (by decide); simp [h1, h4', Is.form, Is.forms]; done)
  | 13, _ => first | (have h1 : x % 128 = _ := h1; simp [h1, Is.form, Is.forms]; done) | (have h2' := h2 (by decide); simp [h1, h2', Is.form, Is.forms, Is.one, Is.small, Is.row_jalr, Is.row_branch, Is.row_load, Is.row_store, Is.row_imm]; done) | (have h2' := h2 (by decide); have h3' := h3 (by decide); simp [h1, h2', h3', Is.form, Is.forms, Is.one, Is.small, Is.alu, Is.row_imm, Is.row_reg0, Is.row_reg32]; done) | (have h4' := h4 (by decide); simp [h1, h4', Is.form, Is.forms]; done)
  | 14, _ => first | (have h1 : x % 128 = _ := h1; simp [h1, Is.form, Is.forms]; done) | (have h2' := h2 (by decide); simp [h1, h2', Is.form, Is.forms, Is.one, Is.small, Is.row_jalr, Is.row_branch, Is.row_load, Is.row_store, Is.row_imm]; done) | (have h2' := h2 (by decide); have h3' := h3 (by decide); simp [h1, h2', h3', Is.form, Is.forms, Is.one, Is.small, Is.alu, Is.row_imm, Is.row_reg0, Is.row_reg32]; done) | (have h4' := h4 (by decide); simp [h1, h4', Is.form, Is.forms]; done)
  | 15, _ => first | (have h1 : x % 128 = _ := h1; simp [h1, Is.form, Is.forms]; done) | (have h2' := h2 (by decide); simp [h1, h2', Is.form, Is.forms, Is.one, Is.small, Is.row_jalr, Is.row_branch, Is.row_load, Is.row_store, Is.row_imm]; done) | (have h2' := h2 (by decide); have h3' := h3 (by decide); simp [h1, h2', h3', Is.form, Is.forms, Is.one, Is.small, Is.alu, Is.row_imm, Is.row_reg0, Is.row_reg32]; done) | (have h4' := h4 (by decide); simp [h1, h4', Is.form, Is.forms]; done)
  | 16, _ => first | (have h1 : x % 128 = _ := h1; simp [h1, Is.form, Is.forms]; done) | (have h2' := h2 (by decide); simp [h1, h2', Is.form, Is.forms, Is.one, Is.small, Is.row_jalr, Is.row_branch, Is.row_load, Is.row_store, Is.row_imm]; done) | (have h2' := h2 (by decide); have h3' := h3 (by decide); simp [h1, h2', h3', Is.form, Is.forms, Is.one, Is.small, Is.alu, Is.row_imm, Is.row_reg0, Is.row_reg32]; done) | (have h4' := h4 (by decide); simp [h1, h4', Is.form, Is.forms]; done)
  | 17, _ => first | (have h1 : x % 128 = _ := h1; simp [h1, Is.form, Is.forms]; done) | (have h2' := h2 (by decide); simp [h1, h2', Is.form, Is.forms, Is.one, Is.small, Is.row_jalr, Is.row_branch, Is.row_load, Is.row_store, Is.row_imm]; done) | (have h2' := h2 (by decide); have h3' := h3 (by decide); simp [h1, h2', h3', Is.form, Is.forms, Is.one, Is.small, Is.alu, Is.row_imm, Is.row_reg0, Is.row_reg32]; done) | (have h4' := h4 (by decide); simp [h1, h4', Is.form, Is.forms]; done)
  | 18, _ => first | (have h1 : x % 128 = _ := h1; simp [h1, Is.form, Is.forms]; done) | (have h2' := h2 (by decide); simp [h1, h2', Is.form, Is.forms, Is.one, Is.small, Is.row_jalr, Is.row_branch, Is.row_load, Is.row_store, Is.row_imm]; done) | (have h2' := h2 (by decide); have h3' := h3 (by decide); simp [h1, h2', h3', Is.form, Is.forms, Is.one, Is.small, Is.alu, Is.row_imm, Is.row_reg0, Is.row_reg32]; done) | (have h4' := h4 (by decide); simp [h1, h4', Is.form, Is.forms]; done)
  | 19, _ => first | (have h1 : x % 128 = _ := h1; simp [h1, Is.form, Is.forms]; done) | (have h2' := h2 (by decide); simp [h1, h2', Is.form, Is.forms, Is.one, Is.small, Is.row_jalr, Is.row_branch, Is.row_load, Is.row_store, Is.row_imm]; done) | (have h2' := h2 (by decide); have h3' := h3 (by decide); simp [h1, h2', h3', Is.form, Is.forms, Is.one, Is.small, Is.alu, Is.row_imm, Is.row_reg0, Is.row_reg32]; done) | (have h4' := h4 (by decide); simp [h1, h4', Is.form, Is.forms]; done)
  | 20, _ => first | (have h1 : x % 128 = _ := h1; simp [h1, Is.form, Is.forms]; done) | (have h2' := h2 (by decide); simp [h1, h2', Is.form, Is.forms, Is.one, Is.small, Is.row_jalr, Is.row_branch, Is.row_load, Is.row_store, Is.row_imm]; done) | (have h2' := h2 (by decide); have h3' := h3 (by decide); simp [h1, h2', h3', Is.form, Is.forms, Is.one, Is.small, Is.alu, Is.row_imm, Is.row_reg0, Is.row_reg32]; done) | (have h4' := h4 (by decide); simp [h1, h4', Is.form, Is.forms]; done)
  | 21, _ => first | (have h1 : x % 128 = _ := h1; simp [h1, Is.form, Is.forms]; done) | (have h2' := h2 (by decide); simp [h1, h2', Is.form, Is.forms, Is.one, Is.small, Is.row_jalr, Is.row_branch, Is.row_load, Is.row_store, Is.row_imm]; done) | (have h2' := h2 (by decide); have h3' := h3 (by decide); simp [h1, h2', h3', Is.form, Is.forms, Is.one, Is.small, Is.alu, Is.row_imm, Is.row_reg0, Is.row_reg32]; done) | (have h4' := h4 (by decide); simp [h1, h4', Is.form, Is.forms]; done)
  | 22, _ => first | (have h1 : x % 128 = _ := h1; simp [h1, Is.form, Is.forms]; done) | (have h2' := h2 (by decide); simp [h1, h2', Is.form, Is.forms, Is.one, Is.small, Is.row_jalr, Is.row_branch, Is.row_load, Is.row_store, Is.row_imm]; done) | (have h2' := h2 (by decide); have h3' := h3 (by decide); simp [h1, h2', h3', Is.form, Is.forms, Is.one, Is.small, Is.alu, Is.row_imm, Is.row_reg0, Is.row_reg32]; done) | (have h4' := h4 (by decide); simp [h1, h4', Is.form, Is.forms]; done)
  | 23, _ => first | (have h1 : x % 128 = _ := h1; simp [h1, Is.form, Is.forms]; done) | (have h2' := h2 (by decide); simp [h1, h2', Is.form, Is.forms, Is.one, Is.small, Is.row_jalr, Is.row_branch, Is.row_load, Is.row_store, Is.row_imm]; done) | (have h2' := h2 (by decide); have h3' := h3 (by decide); simp [h1, h2', h3', Is.form, Is.forms, Is.one, Is.small, Is.alu, Is.row_imm, Is.row_reg0, Is.row_reg32]; done) | (have h4' := h4 (by decide); simp [h1, h4', Is.form, Is.forms]; done)
  | 24, _ => first | (have h1 : x % 128 = _ := h1; simp [h1, Is.form, Is.forms]; done) | (have h2' := h2 (by decide); simp [h1, h2', Is.form, Is.forms, Is.one, Is.small, Is.row_jalr, Is.row_branch, Is.row_load, Is.row_store, Is.row_imm]; done) | (have h2' := h2 (by decide); have h3' := h3 (by decide); simp [h1, h2', h3', Is.form, Is.forms, Is.one, Is.small, Is.alu, Is.row_imm, Is.row_reg0, Is.row_reg32]; done) | (have h4' := h4 (by decide); simp [h1, h4', Is.form, Is.forms]; done)
  | 25, _ => first | (have h1 : x % 128 = _ := h1; simp [h1, Is.form, Is.forms]; done) | (have h2' := h2 (by decide); simp [h1, h2', Is.form, Is.forms, Is.one, Is.small, Is.row_jalr, Is.row_branch, Is.row_load, Is.row_store, Is.row_imm]; done) | (have h2' := h2 (by decide); have h3' := h3 (by decide); simp [h1, h2', h3', Is.form, Is.forms, Is.one, Is.small, Is.alu, Is.row_imm, Is.row_reg0, Is.row_reg32]; done) | (have h4' := h4 (by decide); simp [h1, h4', Is.form, Is.forms]; done)
  | 26, _ => first | (have h1 : x % 128 = _ := h1; simp [h1, Is.form, Is.forms]; done) | (have h2' := h2 (by decide); simp [h1, h2', Is.form, Is.forms, Is.one, Is.small, Is.row_jalr, Is.row_branch, Is.row_load, Is.row_store, Is.row_imm]; done) | (have h2' := h2 (by decide); have h3' := h3 (by decide); simp [h1, h2', h3', Is.form, Is.forms, Is.one, Is.small, Is.alu, Is.row_imm, Is.row_reg0, Is.row_reg32]; done) | (have h4' := h4 (by decide); simp [h1, h4', Is.form, Is.forms]; done)
  | 27, _ => first | (have h1 : x % 128 = _ := h1; simp [h1, Is.form, Is.forms]; done) | (have h2' := h2 (by decide); simp [h1, h2', Is.form, Is.forms, Is.one, Is.small, Is.row_jalr, Is.row_branch, Is.row_load, Is.row_store, Is.row_imm]; done) | (have h2' := h2 (by decide); have h3' := h3 (by decide); simp [h1, h2', h3', Is.form, Is.forms, Is.one, Is.small, Is.alu, Is.row_imm, Is.row_reg0, Is.row_reg32]; done) | (have h4' := h4 (by decide); simp [h1, h4', Is.form, Is.forms]; done)
  | 28, _ => first | (have h1 : x % 128 = _ := h1; simp [h1, Is.form, Is.forms]; done) | (have h2' := h2 (by decide); simp [h1, h2', Is.form, Is.forms, Is.one, Is.small, Is.row_jalr, Is.row_branch, Is.row_load, Is.row_store, Is.row_imm]; done) | (have h2' := h2 (by decide); have h3' := h3 (by decide); simp [h1, h2', h3', Is.form, Is.forms, Is.one, Is.small, Is.alu, Is.row_imm, Is.row_reg0, Is.row_reg32]; done) | (have h4' := h4 (by decide); simp [h1, h4', Is.form, Is.forms]; done)
  | 29, _ => first | (have h1 : x % 128 = _ := h1; simp [h1, Is.form, Is.forms]; done) | (have h2' := h2 (by decide); simp [h1, h2', Is.form, Is.forms, Is.one, Is.small, Is.row_jalr, Is.row_branch, Is.row_load, Is.row_store, Is.row_imm]; done) | (have h2' := h2 (by decide); have h3' := h3 (by decide); simp [h1, h2', h3', Is.form, Is.forms, Is.one, Is.small, Is.alu, Is.row_imm, Is.row_reg0, Is.row_reg32]; done) | (have h4' := h4 (by decide); simp [h1, h4', Is.form, Is.forms]; done)
  | 30, _ => first | (have h1 : x % 128 = _ := h1; simp [h1, Is.form, Is.forms]; done) | (have h2' := h2 (by decide); simp [h1, h2', Is.form, Is.forms, Is.one, Is.small, Is.row_jalr, Is.row_branch, Is.row_load, Is.row_store, Is.row_imm]; done) | (have h2' := h2 (by decide); have h3' := h3 (by decide); simp [h1, h2', h3', Is.form, Is.forms, Is.one, Is.small, Is.alu, Is.row_imm, Is.row_reg0, Is.row_reg32]; done) | (have h4' := h4 (by decide); simp [h1, h4', Is.form, Is.forms]; done)
  | 31, _ => first | (have h1 : x % 128 = _ := h1; simp [h1, Is.form, Is.forms]; done) | (have h2' := h2 (by decide); simp [h1, h2', Is.form, Is.forms, Is.one, Is.small, Is.row_jalr, Is.row_branch, Is.row_load, Is.row_store, Is.row_imm]; done) | (have h2' := h2 (by decide); have h3' := h3 (by decide); simp [h1, h2', h3', Is.form, Is.forms, Is.one, Is.small, Is.alu, Is.row_imm, Is.row_reg0, Is.row_reg32]; done) | (have h4' := h4 (by decide); simp [h1, h4', Is.form, Is.forms]; done)
  | 32, _ => first | (have h1 : x % 128 = _ := h1; simp [h1, Is.form, Is.forms]; done) | (have h2' := h2 (by decide); simp [h1, h2', Is.form, Is.forms, Is.one, Is.small, Is.row_jalr, Is.row_branch, Is.row_load, Is.row_store, Is.row_imm]; done) | (have h2' := h2 (by decide); have h3' := h3 (by decide); simp [h1, h2', h3', Is.form, Is.forms, Is.one, Is.small, Is.alu, Is.row_imm, Is.row_reg0, Is.row_reg32]; done) | (have h4' := h4 (by decide); simp [h1, h4', Is.form, Is.forms]; done)
  | 33, _ => first | (have h1 : x % 128 = _ := h1; simp [h1, Is.form, Is.forms]; done) | (have h2' := h2 (by decide); simp [h1, h2', Is.form, Is.forms, Is.one, Is.small, Is.row_jalr, Is.row_branch, Is.row_load, Is.row_store, Is.row_imm]; done) | (have h2' := h2 (by decide); have h3' := h3 (by decide); simp [h1, h2', h3', Is.form, Is.forms, Is.one, Is.small, Is.alu, Is.row_imm, Is.row_reg0, Is.row_reg32]; done) | (have h4' := h4 (by decide); simp [h1, h4', Is.form, Is.forms]; done)
  | 34, _ => first | (have h1 : x % 128 = _ := h1; simp [h1, Is.form, Is.forms]; done) | (have h2' := h2 (by decide); simp [h1, h2', Is.form, Is.forms, Is.one, Is.small, Is.row_jalr, Is.row_branch, Is.row_load, Is.row_store, Is.row_imm]; done) | (have h2' := h2 (by decide); have h3' := h3 (by decide); simp [h1, h2', h3', Is.form, Is.forms, Is.one, Is.small, Is.alu, Is.row_imm, Is.row_reg0, Is.row_reg32]; done) | (have h4' := h4 (by decide); simp [h1, h4', Is.form, Is.forms]; done)
  | 35, _ => first | (have h1 : x % 128 = _ := h1; simp [h1, Is.form, Is.forms]; done) | (have h2' := h2 (by decide); simp [h1, h2', Is.form, Is.forms, Is.one, Is.small, Is.row_jalr, Is.row_branch, Is.row_load, Is.row_store, Is.row_imm]; done) | (have h2' := h2 (by decide); have h3' := h3 (by decide); simp [h1, h2', h3', Is.form, Is.forms, Is.one, Is.small, Is.alu, Is.row_imm, Is.row_reg0, Is.row_reg32]; done) | (have h4' := h4 (by decide); simp [h1, h4', Is.form, Is.forms]; done)
  | 36, _ => first | (have h1 : x % 128 = _ := h1; simp [h1, Is.form, Is.forms]; done) | (have h2' := h2 (by decide); simp [h1, h2', Is.form, Is.forms, Is.one, Is.small, Is.row_jalr, Is.row_branch, Is.row_load, Is.row_store, Is.row_imm]; done) | (have h2' := h2 (by decide); have h3' := h3 (by decide); simp [h1, h2', h3', Is.form, Is.forms, Is.one, Is.small, Is.alu, Is.row_imm, Is.row_reg0, Is.row_reg32]; done) | (have h4' := h4 (by decide); simp [h1, h4', Is.form, Is.forms]; done)
  | 37, _ => first | (have h1 : x % 128 = _ := h1; simp [h1, Is.form, Is.forms]; done) | (have h2' := h2 (by decide); simp [h1, h2', Is.form, Is.forms, Is.one, Is.small, Is.row_jalr, Is.row_branch, Is.row_load, Is.row_store, Is.row_imm]; done) | (have h2' := h2 (by decide); have h3' := h3 (by decide); simp [h1, h2', h3', Is.form, Is.forms, Is.one, Is.small, Is.alu, Is.row_imm, Is.row_reg0, Is.row_reg32]; done) | (have h4' := h4 (by decide); simp [h1, h4', Is.form, Is.forms]; done)
  | 38, _ => exact absurd rfl h38
  | 39, _ => exact absurd rfl h39
  | 40, _ => first | (have h1 : x % 128 = _ := h1; simp [h1, Is.form, Is.forms]; done) | (have h2' := h2 (by decide); simp [h1, h2', Is.form, Is.forms, Is.one, Is.small, Is.row_jalr, Is.row_branch, Is.row_load, Is.row_store, Is.row_imm]; done) | (have h2' := h2 (by decide); have h3' := h3 (by decide); simp [h1, h2', h3', Is.form, Is.forms, Is.one, Is.small, Is.alu, Is.row_imm, Is.row_reg0, Is.row_reg32]; done) | (have h4' := h4 (by decide); simp [h1, h4', Is.form, Is.forms]; done)
  | 41, _ => first | (have h1 : x % 128 = _ := h1; simp [h1, Is.form, Is.forms]; done) | (have h2' := h2 (by decide); simp [h1, h2', Is.form, Is.forms, Is.one, Is.small, Is.row_jalr, Is.row_branch, Is.row_load, Is.row_store, Is.row_imm]; done) | (have h2' := h2 (by decide); have h3' := h3 (by decide); simp [h1, h2', h3', Is.form, Is.forms, Is.one, Is.small, Is.alu, Is.row_imm, Is.row_reg0, Is.row_reg32]; done) | (have h4' := h4 (by decide); simp [h1, h4', Is.form, Is.forms]; done)
  | 42, _ => first | (have h1 : x % 128 = _ := h1; simp [h1, Is.form, Is.forms]; done) | (have h2' := h2 (by decide); simp [h1, h2', Is.form, Is.forms, Is.one, Is.small, Is.row_jalr, Is.row_branch, Is.row_load, Is.row_store, Is.row_imm]; done) | (have h2' := h2 (by decide); have h3' := h3 (by decide); simp [h1, h2', h3', Is.form, Is.forms, Is.one, Is.small, Is.alu, Is.row_imm, Is.row_reg0, Is.row_reg32]; done) | (have h4' := h4 (by decide); simp [h1, h4', Is.form, Is.forms]; done)
  | 43, _ => first | (have h1 : x % 128 = _ := h1; simp [h1, Is.form, Is.forms]; done) | (have h2' := h2 (by decide); simp [h1, h2', Is.form, Is.forms, Is.one, Is.small, Is.row_jalr, Is.row_branch, Is.row_load, Is.row_store, Is.row_imm]; done) | (have h2' := h2 (by decide); have h3' := h3 (by decide); simp [h1, h2', h3', Is.form, Is.forms, Is.one, Is.small, Is.alu, Is.row_imm, Is.row_reg0, Is.row_reg32]; done) | (have h4' := h4 (by decide); simp [h1, h4', Is.form, Is.forms]; done)
  | 44, _ => first | (have h1 : x % 128 = _ := h1; simp [h1, Is.form, Is.forms]; done) | (have h2' := h2 (by decide); simp [h1, h2', Is.form, Is.forms, Is.one, Is.small, Is.row_jalr, Is.row_branch, Is.row_load, Is.row_store, Is.row_imm]; done) | (have h2' := h2 (by decide); have h3' := h3 (by decide); simp [h1, h2', h3', Is.form, Is.forms, Is.one, Is.small, Is.alu, Is.row_imm, Is.row_reg0, Is.row_reg32]; done) | (have h4' := h4 (by decide); simp [h1, h4', Is.form, Is.forms]; done)
  | 45, _ => first | (have h1 : x % 128 = _ := h1; simp [h1, Is.form, Is.forms]; done) | (have h2' := h2 (by decide); simp [h1, h2', Is.form, Is.forms, Is.one, Is.small, Is.row_jalr, Is.row_branch, Is.row_load, Is.row_store, Is.row_imm]; done) | (have h2' := h2 (by decide); have h3' := h3 (by decide); simp [h1, h2', h3', Is.form, Is.forms, Is.one, Is.small, Is.alu, Is.row_imm, Is.row_reg0, Is.row_reg32]; done) | (have h4' := h4 (by decide); simp [h1, h4', Is.form, Is.forms]; done)
  | 46, _ => first | (have h1 : x % 128 = _ := h1; simp [h1, Is.form, Is.forms]; done) | (have h2' := h2 (by decide); simp [h1, h2', Is.form, Is.forms, Is.one, Is.small, Is.row_jalr, Is.row_branch, Is.row_load, Is.row_store, Is.row_imm]; done) | (have h2' := h2 (by decide); have h3' := h3 (by decide); simp [h1, h2', h3', Is.form, Is.forms, Is.one, Is.small, Is.alu, Is.row_imm, Is.row_reg0, Is.row_reg32]; done) | (have h4' := h4 (by decide); simp [h1, h4', Is.form, Is.forms]; done)
  | 47, _ => first | (have h1 : x % 128 = _ := h1; simp [h1, Is.form, Is.forms]; done) | (have h2' := h2 (by decide); simp [h1, h2', Is.form, Is.forms, Is.one, Is.small, Is.row_jalr, Is.row_branch, Is.row_load, Is.row_store, Is.row_imm]; done) | (have h2' := h2 (by decide); have h3' := h3 (by decide); simp [h1, h2', h3', Is.form, Is.forms, Is.one, Is.small, Is.alu, Is.row_imm, Is.row_reg0, Is.row_reg32]; done) | (have h4' := h4 (by decide); simp [h1, h4', Is.form, Is.forms]; done)
  | n + 48, h => exact absurd h (by omega)
/-- Signed bits of so many, again. -/
theorem Is.back_signed (imm : Int) (k : Nat) (h1 : 1 ≤ k) (h2 : k ≤ 31) (hl : -(2 ^ (k - 1) : Nat) ≤ imm) (hm : imm < (2 ^ (k - 1) : Nat)) (J : Nat) (hJ : J = (imm % 4294967296).toNat % 2 ^ k) : Bt.sgn (Bt.sext J k) = imm := by
  have hk : k = 1 ∨ k = 2 ∨ k = 3 ∨ k = 4 ∨ k = 5 ∨ k = 6 ∨ k = 7 ∨ k = 8 ∨ k = 9 ∨ k = 10 ∨ k = 11 ∨ k = 12 ∨ k = 13 ∨ k = 14 ∨ k = 15 ∨ k = 16 ∨ k = 17 ∨ k = 18 ∨ k = 19 ∨ k = 20 ∨ k = 21 ∨ k = 22 ∨ k = 23 ∨ k = 24 ∨ k = 25 ∨ k = 26 ∨ k = 27 ∨ k = 28 ∨ k = 29 ∨ k = 30 ∨ k = 31 := by omega
  rcases hk with rfl | rfl | rfl | rfl | rfl | rfl | rfl | rfl | rfl | rfl | rfl | rfl | rfl | rfl | rfl | rfl | rfl | rfl | rfl | rfl | rfl | rfl | rfl | rfl | rfl | rfl | rfl | rfl | rfl | rfl | rfl <;>
    (simp only [Nat.reduceSub, Nat.reducePow, Nat.sub_self, Nat.pow_zero, Nat.pow_one] at *; unfold Bt.sext Bt.sgn; simp only [Nat.reduceSub, Nat.reducePow, Nat.sub_self, Nat.pow_zero, Nat.pow_one]; (repeat' split) <;> omega)
theorem Is.jv_word (code rd P Q R S : Nat) (hc : code < 128) (hd : rd < 32) (hP : P < 256) (hQ : Q < 2) (hR : R < 1024) (hS : S < 2) : Is.jv (code + rd * 128 + P * 4096 + Q * 1048576 + R * 2097152 + S * 2147483648) = R * 2 + Q * 2048 + P * 4096 + S * 1048576 := by
  have h1 : (code + rd * 128 + P * 4096 + Q * 1048576 + R * 2097152 + S * 2147483648) / 2097152 = R + S * 1024 := by omega
  have h2 : (code + rd * 128 + P * 4096 + Q * 1048576 + R * 2097152 + S * 2147483648) / 1048576 = Q + R * 2 + S * 2048 := by omega
  have h3 : (code + rd * 128 + P * 4096 + Q * 1048576 + R * 2097152 + S * 2147483648) / 4096 = P + (Q + R * 2 + S * 2048) * 256 := by omega
  have h4 : (code + rd * 128 + P * 4096 + Q * 1048576 + R * 2097152 + S * 2147483648) / 2147483648 = S := by omega
  unfold Is.jv
  rw [h1, h2, h3, h4]
  omega
theorem Is.jv_imm (A : Nat) (h : A % 2 = 0) : A / 2 % 1024 * 2 + A / 2048 % 2 * 2048 + A / 4096 % 256 * 4096 + A / 1048576 % 2 * 1048576 = A % 2097152 := by omega
theorem Is.b_word (code P Q three rs1 rs2 R S : Nat) (hc : code < 128) (hP : P < 2) (hQ : Q < 16) (h3 : three < 8) (ha : rs1 < 32) (hb : rs2 < 32) (hR : R < 64) (hS : S < 2) :
    Is.bv (code + P * 128 + Q * 256 + three * 4096 + rs1 * 32768 + rs2 * 1048576 + R * 33554432 + S * 2147483648) = Q * 2 + R * 32 + P * 2048 + S * 4096 ∧
    (code + P * 128 + Q * 256 + three * 4096 + rs1 * 32768 + rs2 * 1048576 + R * 33554432 + S * 2147483648) / 32768 % 32 = rs1 ∧ (code + P * 128 + Q * 256 + three * 4096 + rs1 * 32768 + rs2 * 1048576 + R * 33554432 + S * 2147483648) / 1048576 % 32 = rs2 ∧
    (code + P * 128 + Q * 256 + three * 4096 + rs1 * 32768 + rs2 * 1048576 + R * 33554432 + S * 2147483648) / 4096 % 8 = three ∧ code + P * 128 + Q * 256 + three * 4096 + rs1 * 32768 + rs2 * 1048576 + R * 33554432 + S * 2147483648 < 4294967296 := by
  have e1 : (code + P * 128 + Q * 256 + three * 4096 + rs1 * 32768 + rs2 * 1048576 + R * 33554432 + S * 2147483648) / 128 = P + (Q * 2 + three * 32 + rs1 * 256 + rs2 * 8192 + R * 262144 + S * 16777216) := by omega
  have e2 : (code + P * 128 + Q * 256 + three * 4096 + rs1 * 32768 + rs2 * 1048576 + R * 33554432 + S * 2147483648) / 256 = Q + (three * 16 + rs1 * 128 + rs2 * 4096 + R * 131072 + S * 8388608) := by omega
  have e3 : (code + P * 128 + Q * 256 + three * 4096 + rs1 * 32768 + rs2 * 1048576 + R * 33554432 + S * 2147483648) / 4096 = three + (rs1 * 8 + rs2 * 256 + R * 8192 + S * 524288) := by omega
  have e4 : (code + P * 128 + Q * 256 + three * 4096 + rs1 * 32768 + rs2 * 1048576 + R * 33554432 + S * 2147483648) / 32768 = rs1 + (rs2 * 32 + R * 1024 + S * 65536) := by omega
  have e5 : (code + P * 128 + Q * 256 + three * 4096 + rs1 * 32768 + rs2 * 1048576 + R * 33554432 + S * 2147483648) / 1048576 = rs2 + (R * 32 + S * 2048) := by omega
  have e6 : (code + P * 128 + Q * 256 + three * 4096 + rs1 * 32768 + rs2 * 1048576 + R * 33554432 + S * 2147483648) / 33554432 = R + S * 64 := by omega
  have e7 : (code + P * 128 + Q * 256 + three * 4096 + rs1 * 32768 + rs2 * 1048576 + R * 33554432 + S * 2147483648) / 2147483648 = S := by omega
  unfold Is.bv
  rw [e1, e2, e3, e4, e5, e6, e7]
  refine ⟨by omega, by omega, by omega, by omega, by omega⟩
theorem Is.bv_imm (A : Nat) (h : A % 2 = 0) : A / 2 % 16 * 2 + A / 32 % 64 * 32 + A / 2048 % 2 * 2048 + A / 4096 % 2 * 4096 = A % 8192 := by omega
theorem Is.s_word (code P three rs1 rs2 R : Nat) (hc : code < 128) (hP : P < 32) (h3 : three < 8) (ha : rs1 < 32) (hb : rs2 < 32) (hR : R < 128) :
    Is.sv (code + P * 128 + three * 4096 + rs1 * 32768 + rs2 * 1048576 + R * 33554432) = P + R * 32 ∧ (code + P * 128 + three * 4096 + rs1 * 32768 + rs2 * 1048576 + R * 33554432) / 32768 % 32 = rs1 ∧
    (code + P * 128 + three * 4096 + rs1 * 32768 + rs2 * 1048576 + R * 33554432) / 1048576 % 32 = rs2 ∧ (code + P * 128 + three * 4096 + rs1 * 32768 + rs2 * 1048576 + R * 33554432) / 4096 % 8 = three ∧ code + P * 128 + three * 4096 + rs1 * 32768 + rs2 * 1048576 + R * 33554432 < 4294967296 := by
  have e1 : (code + P * 128 + three * 4096 + rs1 * 32768 + rs2 * 1048576 + R * 33554432) / 128 = P + (three * 32 + rs1 * 256 + rs2 * 8192 + R * 262144) := by omega
  have e3 : (code + P * 128 + three * 4096 + rs1 * 32768 + rs2 * 1048576 + R * 33554432) / 4096 = three + (rs1 * 8 + rs2 * 256 + R * 8192) := by omega
  have e4 : (code + P * 128 + three * 4096 + rs1 * 32768 + rs2 * 1048576 + R * 33554432) / 32768 = rs1 + (rs2 * 32 + R * 1024) := by omega
  have e5 : (code + P * 128 + three * 4096 + rs1 * 32768 + rs2 * 1048576 + R * 33554432) / 1048576 = rs2 + R * 32 := by omega
  have e6 : (code + P * 128 + three * 4096 + rs1 * 32768 + rs2 * 1048576 + R * 33554432) / 33554432 = R := by omega
  unfold Is.sv
  rw [e1, e3, e4, e5, e6]
  refine ⟨by omega, by omega, by omega, by omega, by omega⟩
theorem Is.decS_word (s code three seven n rd rs1 rs2 : Nat) (imm : Int) (hc : code < 128) (h3 : three < 8) (h7 : seven < 128) (hd : rd < 32) (ha : rs1 < 32) (hb : rs2 < 32) (hs : s = 0 ∨ s = 1 ∨ s = 2 ∨ s = 3 ∨ s = 4 ∨ s = 5 ∨ s = 6 ∨ s = 8)
    (hl : (Is.uses (s : Int)).least ≤ imm) (hm : imm ≤ (Is.uses (s : Int)).most) (he : (Is.uses (s : Int)).even = true → imm % 2 = 0)
    (e : Is.Empty s three seven rd rs1 rs2) :
    Is.decS (Is.wordS s code three seven rd rs1 rs2 (imm % 4294967296).toNat) n s = (⟨n, rd, rs1, rs2, imm⟩, 0) ∧ Is.wordS s code three seven rd rs1 rs2 (imm % 4294967296).toNat % 128 = code ∧ Is.wordS s code three seven rd rs1 rs2 (imm % 4294967296).toNat < 4294967296 ∧
    (s = 2 ∨ s = 3 ∨ s = 4 ∨ s = 5 ∨ s = 6 → Is.wordS s code three seven rd rs1 rs2 (imm % 4294967296).toNat / 4096 % 8 = three) ∧ (s = 5 ∨ s = 6 → Is.wordS s code three seven rd rs1 rs2 (imm % 4294967296).toNat / 33554432 = seven) ∧ (s = 8 → Is.wordS s code three seven rd rs1 rs2 (imm % 4294967296).toNat % 1048576 = code) := by
  have hp : ∀ {i j : Is.Inst}, i.op = j.op → i.rd = j.rd → i.rs1 = j.rs1 → i.rs2 = j.rs2 → i.imm = j.imm → (i, (0 : Int)) = (j, 0) := by
    rintro ⟨⟩ ⟨⟩ h1 h2 h3 h4 h5; simp only at h1 h2 h3 h4 h5; subst h1 h2 h3 h4 h5; rfl
  have hA : (imm % 4294967296).toNat < 4294967296 := by omega
  have bs := fun k h1 h2 => Is.back_signed imm k h1 h2
  have hAe : (((imm % 4294967296).toNat : Nat) : Int) = imm % 4294967296 := by omega
  rcases hs with rfl | rfl | rfl | rfl | rfl | rfl | rfl | rfl
  · obtain rfl := e.rs1 (by simp); obtain rfl := e.rs2 (by simp); obtain rfl := e.three (by simp); obtain rfl := e.seven (by simp); have hl' : (0 : Int) ≤ imm := hl; have hm' : imm ≤ (1048575 : Int) := hm
    clear hl hm he
    generalize (imm % 4294967296).toNat = A at *
    simp only [Is.wordS, Is.decS]
    refine ⟨hp rfl ?_ rfl rfl ?_, by omega, by omega, fun _ => by omega, fun h => by first | (exfalso; omega) | omega, fun h => by first | (exfalso; omega) | omega⟩
    · show (((code + rd * 128 + A % 1048576 * 4096) / 128 % 32 : Nat) : Int) = rd; omega
    · show (((code + rd * 128 + A % 1048576 * 4096) / 4096 : Nat) : Int) = imm; omega
  · obtain rfl := e.rs1 (by simp); obtain rfl := e.rs2 (by simp); obtain rfl := e.three (by simp); obtain rfl := e.seven (by simp); have hl' : (-1048576 : Int) ≤ imm := hl; have hm' : imm ≤ (1048574 : Int) := hm
    have he' : imm % 2 = 0 := he rfl
    clear hl hm he
    generalize (imm % 4294967296).toNat = A at *
    simp only [Is.wordS, Is.decS]
    refine ⟨hp rfl ?_ rfl rfl ?_, by omega, by omega, fun _ => by omega, fun h => by first | (exfalso; omega) | omega, fun h => by first | (exfalso; omega) | omega⟩
    · show (((code + rd * 128 + A / 4096 % 256 * 4096 + A / 2048 % 2 * 1048576 + A / 2 % 1024 * 2097152 + A / 1048576 % 2 * 2147483648) / 128 % 32 : Nat) : Int) = rd; omega
    · have hA2 : A % 2 = 0 := by omega
      exact bs 21 (by omega) (by omega) (by simp; omega) (by simp; omega) _ (by
        rw [Is.jv_word code rd _ _ _ _ hc hd (Nat.mod_lt _ (by omega)) (Nat.mod_lt _ (by omega)) (Nat.mod_lt _ (by omega)) (Nat.mod_lt _ (by omega)), Is.jv_imm A hA2])
  · obtain rfl := e.rs2 (by simp); obtain rfl := e.seven (by simp); have hl' : (-2048 : Int) ≤ imm := hl; have hm' : imm ≤ (2047 : Int) := hm
    clear hl hm he
    generalize (imm % 4294967296).toNat = A at *
    simp only [Is.wordS, Is.decS]
    refine ⟨hp rfl ?_ ?_ rfl ?_, by omega, by omega, fun _ => by omega, fun h => by first | (exfalso; omega) | omega, fun h => by first | (exfalso; omega) | omega⟩
    · show (((code + rd * 128 + three * 4096 + rs1 * 32768 + A % 4096 * 1048576) / 128 % 32 : Nat) : Int) = rd; omega
    · show (((code + rd * 128 + three * 4096 + rs1 * 32768 + A % 4096 * 1048576) / 32768 % 32 : Nat) : Int) = rs1; omega
    · exact bs 12 (by omega) (by omega) (by simp; omega) (by simp; omega) ((code + rd * 128 + three * 4096 + rs1 * 32768 + A % 4096 * 1048576) / 1048576) (by simp only [Nat.reducePow]; omega)
  · obtain rfl := e.rd (by simp); obtain rfl := e.seven (by simp); have hl' : (-4096 : Int) ≤ imm := hl; have hm' : imm ≤ (4094 : Int) := hm
    have he' : imm % 2 = 0 := he rfl
    clear hl hm he
    generalize (imm % 4294967296).toNat = A at *
    have hA2 : A % 2 = 0 := by omega
    have hbi := Is.bv_imm A hA2
    obtain ⟨w1, w2, w3, w4, w5⟩ := Is.b_word code (A / 2048 % 2) (A / 2 % 16) three rs1 rs2 (A / 32 % 64) (A / 4096 % 2) hc (Nat.mod_lt _ (by omega)) (Nat.mod_lt _ (by omega)) h3 ha hb (Nat.mod_lt _ (by omega)) (Nat.mod_lt _ (by omega))
    rw [hbi] at w1
    simp only [Is.wordS, Is.decS]
    refine ⟨hp rfl rfl ?_ ?_ ?_, by omega, w5, fun _ => w4, fun h => by exfalso; omega, fun h => by exfalso; omega⟩
    · exact congrArg (fun n : Nat => (n : Int)) w2
    · exact congrArg (fun n : Nat => (n : Int)) w3
    · exact bs 13 (by omega) (by omega) (by simp; omega) (by simp; omega) _ w1
  · obtain rfl := e.rd (by simp); obtain rfl := e.seven (by simp); have hl' : (-2048 : Int) ≤ imm := hl; have hm' : imm ≤ (2047 : Int) := hm
    clear hl hm he
    generalize (imm % 4294967296).toNat = A at *
    obtain ⟨w1, w2, w3, w4, w5⟩ := Is.s_word code (A % 32) three rs1 rs2 (A / 32 % 128) hc (Nat.mod_lt _ (by omega)) h3 ha hb (Nat.mod_lt _ (by omega))
    rw [show A % 32 + A / 32 % 128 * 32 = A % 4096 by omega] at w1
    simp only [Is.wordS, Is.decS]
    refine ⟨hp rfl rfl ?_ ?_ ?_, by omega, w5, fun _ => w4, fun h => by exfalso; omega, fun h => by exfalso; omega⟩
    · exact congrArg (fun n : Nat => (n : Int)) w2
    · exact congrArg (fun n : Nat => (n : Int)) w3
    · exact bs 12 (by omega) (by omega) (by simp; omega) (by simp; omega) _ w1
  · obtain rfl := e.rs2 (by simp); have hl' : (0 : Int) ≤ imm := hl; have hm' : imm ≤ (31 : Int) := hm
    clear hl hm he
    generalize (imm % 4294967296).toNat = A at *
    simp only [Is.wordS, Is.decS]
    refine ⟨hp rfl ?_ ?_ rfl ?_, by omega, by omega, fun _ => by omega, fun h => by first | (exfalso; omega) | omega, fun h => by first | (exfalso; omega) | omega⟩
    · show (((code + rd * 128 + three * 4096 + rs1 * 32768 + A % 32 * 1048576 + seven * 33554432) / 128 % 32 : Nat) : Int) = rd; omega
    · show (((code + rd * 128 + three * 4096 + rs1 * 32768 + A % 32 * 1048576 + seven * 33554432) / 32768 % 32 : Nat) : Int) = rs1; omega
    · show (((code + rd * 128 + three * 4096 + rs1 * 32768 + A % 32 * 1048576 + seven * 33554432) / 1048576 % 32 : Nat) : Int) = imm; omega
  · have hl' : (0 : Int) ≤ imm := hl; have hm' : imm ≤ (0 : Int) := hm
    clear hl hm he
    generalize (imm % 4294967296).toNat = A at *
    simp only [Is.wordS, Is.decS]
    refine ⟨hp rfl ?_ ?_ ?_ ?_, by omega, by omega, fun _ => by omega, fun h => by first | (exfalso; omega) | omega, fun h => by first | (exfalso; omega) | omega⟩
    · show (((code + rd * 128 + three * 4096 + rs1 * 32768 + rs2 * 1048576 + seven * 33554432) / 128 % 32 : Nat) : Int) = rd; omega
    · show (((code + rd * 128 + three * 4096 + rs1 * 32768 + rs2 * 1048576 + seven * 33554432) / 32768 % 32 : Nat) : Int) = rs1; omega
    · show (((code + rd * 128 + three * 4096 + rs1 * 32768 + rs2 * 1048576 + seven * 33554432) / 1048576 % 32 : Nat) : Int) = rs2; omega
    · show (0 : Int) = imm; omega
  · obtain rfl := e.rd (by simp); obtain rfl := e.rs1 (by simp); obtain rfl := e.rs2 (by simp); obtain rfl := e.three (by simp); obtain rfl := e.seven (by simp); have hl' : (-2048 : Int) ≤ imm := hl; have hm' : imm ≤ (2047 : Int) := hm
    clear hl hm he
    generalize (imm % 4294967296).toNat = A at *
    simp only [Is.wordS, Is.decS]
    refine ⟨hp rfl rfl rfl rfl ?_, by omega, by omega, fun _ => by omega, fun h => by first | (exfalso; omega) | omega, fun h => by first | (exfalso; omega) | omega⟩
    · exact bs 12 (by omega) (by omega) (by simp; omega) (by simp; omega) ((code + A % 4096 * 1048576) / 1048576) (by simp only [Nat.reducePow]; omega)
end Go.Proofs.YtfafdkbnmfpbmaaGreatDoor
/- Plain: what is decoded is encoded as the word; what follows for the laws. -/
namespace Go.Proofs.YtfafdkbnmfpbmaaGreatDoor
open Go.RowKit
set_option linter.unusedVariables false
set_option linter.unusedSimpArgs false

theorem Is.back {n rd rs1 rs2 : Nat} {imm : Int} (g : Is.Good n rd rs1 rs2 imm) : Is.dec (Is.word n rd rs1 rs2 imm) = (⟨n, rd, rs1, rs2, imm⟩, 0) ∧ Is.word n rd rs1 rs2 imm < 4294967296 ∧ Is.word n rd rs1 rs2 imm % 128 = (Is.form n).code := by
  have hb := Is.form_bd n g.hn
  by_cases h38 : n = 38
  · subst h38
    obtain rfl := g.erd rfl; obtain rfl := g.ers1 rfl; obtain rfl := g.ers2 rfl
    have h1 : (0 : Int) ≤ imm := g.least; have h2 : imm ≤ 0 := g.most
    obtain rfl : imm = 0 := by omega
    decide
  by_cases h39 : n = 39
  · subst h39
    obtain rfl := g.erd rfl; obtain rfl := g.ers1 rfl; obtain rfl := g.ers2 rfl
    have h1 : (0 : Int) ≤ imm := g.least; have h2 : imm ≤ 0 := g.most
    obtain rfl : imm = 0 := by omega
    decide
  have h7 : (Is.form n).shape ≠ 7 := fun k => by rcases (Is.form_empty n g.hn).2.2.1.1 k with k | k <;> omega
  have e : Is.word n rd rs1 rs2 imm = Is.wordS (Is.form n).shape (Is.form n).code (Is.form n).three (Is.form n).seven rd rs1 rs2 (imm % 4294967296).toNat := by rw [Is.word, if_neg h38, if_neg h39]
  obtain ⟨w1, w2, w3, w4, w5, w6⟩ := Is.decS_word (Is.form n).shape (Is.form n).code (Is.form n).three (Is.form n).seven n rd rs1 rs2 imm hb.2.1 hb.2.2.1 hb.2.2.2 g.hrd g.hrs1 g.hrs2 (by have hs8 : (Is.form n).shape ≤ 8 := hb.1; omega) g.least g.most g.even g.empty
  rw [e]
  refine ⟨?_, w3, w2⟩
  have hf := Is.find_form n _ g.hn h38 h39 w2 w4 w5 (fun h => by rw [w6 h]; have := (Is.form_empty n g.hn).2.2.2.1 h; subst this; decide)
  rw [Is.dec, hf, Is.shape_form n g.hn]
  exact w1

/-- What an Op's word has. -/
structure Is.Has (n x : Nat) : Prop where
  hn : n < 48
  code : x % 128 = (Is.form n).code
  three : (Is.form n).shape = 2 ∨ (Is.form n).shape = 3 ∨ (Is.form n).shape = 4 ∨ (Is.form n).shape = 5 ∨ (Is.form n).shape = 6 → x / 4096 % 8 = (Is.form n).three
  seven : (Is.form n).shape = 5 ∨ (Is.form n).shape = 6 → x / 33554432 = (Is.form n).seven
  fence : (Is.form n).shape = 8 → x % 1048576 = 15
  ecall : n = 38 → x = 115
  stop : n = 39 → x = 1048691
theorem Is.find_inv (x : Nat) : Is.find x = -1 ∨ ∃ n : Nat, Is.find x = (n : Int) ∧ Is.Has n x := by
  unfold Is.find
  have ht : x / 4096 % 8 = 0 ∨ x / 4096 % 8 = 1 ∨ x / 4096 % 8 = 2 ∨ x / 4096 % 8 = 3 ∨ x / 4096 % 8 = 4 ∨ x / 4096 % 8 = 5 ∨ x / 4096 % 8 = 6 ∨ x / 4096 % 8 = 7 := by omega
  by_cases h : x % 128 = 55
  · rw [if_pos h]; exact .inr ⟨0, rfl, ⟨by decide, h, fun h => absurd h (by decide), fun h => absurd h (by decide), fun h => absurd h (by decide), fun h => absurd h (by decide), fun h => absurd h (by decide)⟩⟩
  rw [if_neg h]; clear h
  by_cases h : x % 128 = 23
  · rw [if_pos h]; exact .inr ⟨1, rfl, ⟨by decide, h, fun h => absurd h (by decide), fun h => absurd h (by decide), fun h => absurd h (by decide), fun h => absurd h (by decide), fun h => absurd h (by decide)⟩⟩
  rw [if_neg h]; clear h
  by_cases h : x % 128 = 111
  · rw [if_pos h]; exact .inr ⟨2, rfl, ⟨by decide, h, fun h => absurd h (by decide), fun h => absurd h (by decide), fun h => absurd h (by decide), fun h => absurd h (by decide), fun h => absurd h (by decide)⟩⟩
  rw [if_neg h]; clear h
  by_cases h : x % 128 = 103
  · rw [if_pos h]
    rcases ht with t | t | t | t | t | t | t | t <;> rw [t]
    · exact .inr ⟨3, rfl, ⟨by decide, h, fun _ => t, fun h => absurd h (by decide), fun h => absurd h (by decide), fun h => absurd h (by decide), fun h => absurd h (by decide)⟩⟩
    · exact .inl (by decide)
    · exact .inl (by decide)
    · exact .inl (by decide)
    · exact .inl (by decide)
    · exact .inl (by decide)
    · exact .inl (by decide)
    · exact .inl (by decide)
  rw [if_neg h]; clear h
  by_cases h : x % 128 = 99
  · rw [if_pos h]
    rcases ht with t | t | t | t | t | t | t | t <;> rw [t]
    · exact .inr ⟨4, rfl, ⟨by decide, h, fun _ => t, fun h => absurd h (by decide), fun h => absurd h (by decide), fun h => absurd h (by decide), fun h => absurd h (by decide)⟩⟩
    · exact .inr ⟨5, rfl, ⟨by decide, h, fun _ => t, fun h => absurd h (by decide), fun h => absurd h (by decide), fun h => absurd h (by decide), fun h => absurd h (by decide)⟩⟩
    · exact .inl (by decide)
    · exact .inl (by decide)
    · exact .inr ⟨6, rfl, ⟨by decide, h, fun _ => t, fun h => absurd h (by decide), fun h => absurd h (by decide), fun h => absurd h (by decide), fun h => absurd h (by decide)⟩⟩
    · exact .inr ⟨7, rfl, ⟨by decide, h, fun _ => t, fun h => absurd h (by decide), fun h => absurd h (by decide), fun h => absurd h (by decide), fun h => absurd h (by decide)⟩⟩
    · exact .inr ⟨8, rfl, ⟨by decide, h, fun _ => t, fun h => absurd h (by decide), fun h => absurd h (by decide), fun h => absurd h (by decide), fun h => absurd h (by decide)⟩⟩
    · exact .inr ⟨9, rfl, ⟨by decide, h, fun _ => t, fun h => absurd h (by decide), fun h => absurd h (by decide), fun h => absurd h (by decide), fun h => absurd h (by decide)⟩⟩
  rw [if_neg h]; clear h
  by_cases h : x % 128 = 3
  · rw [if_pos h]
    rcases ht with t | t | t | t | t | t | t | t <;> rw [t]
    · exact .inr ⟨10, rfl, ⟨by decide, h, fun _ => t, fun h => absurd h (by decide), fun h => absurd h (by decide), fun h => absurd h (by decide), fun h => absurd h (by decide)⟩⟩
    · exact .inr ⟨11, rfl, ⟨by decide, h, fun _ => t, fun h => absurd h (by decide), fun h => absurd h (by decide), fun h => absurd h (by decide), fun h => absurd h (by decide)⟩⟩
    · exact .inr ⟨12, rfl, ⟨by decide, h, fun _ => t, fun h => absurd h (by decide), fun h => absurd h (by decide), fun h => absurd h (by decide), fun h => absurd h (by decide)⟩⟩
    · exact .inl (by decide)
    · exact .inr ⟨13, rfl, ⟨by decide, h, fun _ => t, fun h => absurd h (by decide), fun h => absurd h (by decide), fun h => absurd h (by decide), fun h => absurd h (by decide)⟩⟩
    · exact .inr ⟨14, rfl, ⟨by decide, h, fun _ => t, fun h => absurd h (by decide), fun h => absurd h (by decide), fun h => absurd h (by decide), fun h => absurd h (by decide)⟩⟩
    · exact .inl (by decide)
    · exact .inl (by decide)
  rw [if_neg h]; clear h
  by_cases h : x % 128 = 35
  · rw [if_pos h]
    rcases ht with t | t | t | t | t | t | t | t <;> rw [t]
    · exact .inr ⟨15, rfl, ⟨by decide, h, fun _ => t, fun h => absurd h (by decide), fun h => absurd h (by decide), fun h => absurd h (by decide), fun h => absurd h (by decide)⟩⟩
    · exact .inr ⟨16, rfl, ⟨by decide, h, fun _ => t, fun h => absurd h (by decide), fun h => absurd h (by decide), fun h => absurd h (by decide), fun h => absurd h (by decide)⟩⟩
    · exact .inr ⟨17, rfl, ⟨by decide, h, fun _ => t, fun h => absurd h (by decide), fun h => absurd h (by decide), fun h => absurd h (by decide), fun h => absurd h (by decide)⟩⟩
    · exact .inl (by decide)
    · exact .inl (by decide)
    · exact .inl (by decide)
    · exact .inl (by decide)
    · exact .inl (by decide)
  rw [if_neg h]; clear h
  by_cases h : x % 128 = 19
  · rw [if_pos h]
    rcases ht with t | t | t | t | t | t | t | t <;> rw [t]
    · refine .inr ⟨18, ?_, ⟨by decide, h, fun _ => t, fun h => absurd h (by decide), fun h => absurd h (by decide), fun h => absurd h (by decide), fun h => absurd h (by decide)⟩⟩; simp [Is.small, Is.one, Is.row_imm]
    · by_cases s0 : x / 33554432 = 0
      · rw [s0]; exact .inr ⟨24, rfl, ⟨by decide, h, fun _ => t, fun _ => s0, fun h => absurd h (by decide), fun h => absurd h (by decide), fun h => absurd h (by decide)⟩⟩
      · left; simp [Is.small, s0, Is.one, Is.row_imm]
    · refine .inr ⟨19, ?_, ⟨by decide, h, fun _ => t, fun h => absurd h (by decide), fun h => absurd h (by decide), fun h => absurd h (by decide), fun h => absurd h (by decide)⟩⟩; simp [Is.small, Is.one, Is.row_imm]
    · refine .inr ⟨20, ?_, ⟨by decide, h, fun _ => t, fun h => absurd h (by decide), fun h => absurd h (by decide), fun h => absurd h (by decide), fun h => absurd h (by decide)⟩⟩; simp [Is.small, Is.one, Is.row_imm]
    · refine .inr ⟨21, ?_, ⟨by decide, h, fun _ => t, fun h => absurd h (by decide), fun h => absurd h (by decide), fun h => absurd h (by decide), fun h => absurd h (by decide)⟩⟩; simp [Is.small, Is.one, Is.row_imm]
    · by_cases s0 : x / 33554432 = 0
      · rw [s0]; exact .inr ⟨25, rfl, ⟨by decide, h, fun _ => t, fun _ => s0, fun h => absurd h (by decide), fun h => absurd h (by decide), fun h => absurd h (by decide)⟩⟩
      · by_cases s2 : x / 33554432 = 32
        · rw [s2]; exact .inr ⟨26, rfl, ⟨by decide, h, fun _ => t, fun _ => s2, fun h => absurd h (by decide), fun h => absurd h (by decide), fun h => absurd h (by decide)⟩⟩
        · left; simp [Is.small, s0, s2, Is.one, Is.row_imm]
    · refine .inr ⟨22, ?_, ⟨by decide, h, fun _ => t, fun h => absurd h (by decide), fun h => absurd h (by decide), fun h => absurd h (by decide), fun h => absurd h (by decide)⟩⟩; simp [Is.small, Is.one, Is.row_imm]
    · refine .inr ⟨23, ?_, ⟨by decide, h, fun _ => t, fun h => absurd h (by decide), fun h => absurd h (by decide), fun h => absurd h (by decide), fun h => absurd h (by decide)⟩⟩; simp [Is.small, Is.one, Is.row_imm]
  rw [if_neg h]; clear h
  by_cases h : x % 128 = 51
  · rw [if_pos h]
    by_cases s0 : x / 33554432 = 0
    · rw [s0]; rcases ht with t | t | t | t | t | t | t | t <;> rw [t]
      · exact .inr ⟨27, rfl, ⟨by decide, h, fun _ => t, fun _ => s0, fun h => absurd h (by decide), fun h => absurd h (by decide), fun h => absurd h (by decide)⟩⟩
      · exact .inr ⟨29, rfl, ⟨by decide, h, fun _ => t, fun _ => s0, fun h => absurd h (by decide), fun h => absurd h (by decide), fun h => absurd h (by decide)⟩⟩
      · exact .inr ⟨30, rfl, ⟨by decide, h, fun _ => t, fun _ => s0, fun h => absurd h (by decide), fun h => absurd h (by decide), fun h => absurd h (by decide)⟩⟩
      · exact .inr ⟨31, rfl, ⟨by decide, h, fun _ => t, fun _ => s0, fun h => absurd h (by decide), fun h => absurd h (by decide), fun h => absurd h (by decide)⟩⟩
      · exact .inr ⟨32, rfl, ⟨by decide, h, fun _ => t, fun _ => s0, fun h => absurd h (by decide), fun h => absurd h (by decide), fun h => absurd h (by decide)⟩⟩
      · exact .inr ⟨33, rfl, ⟨by decide, h, fun _ => t, fun _ => s0, fun h => absurd h (by decide), fun h => absurd h (by decide), fun h => absurd h (by decide)⟩⟩
      · exact .inr ⟨35, rfl, ⟨by decide, h, fun _ => t, fun _ => s0, fun h => absurd h (by decide), fun h => absurd h (by decide), fun h => absurd h (by decide)⟩⟩
      · exact .inr ⟨36, rfl, ⟨by decide, h, fun _ => t, fun _ => s0, fun h => absurd h (by decide), fun h => absurd h (by decide), fun h => absurd h (by decide)⟩⟩
    by_cases s1 : x / 33554432 = 1
    · rw [s1]; rcases ht with t | t | t | t | t | t | t | t <;> rw [t]
      · exact .inr ⟨40, rfl, ⟨by decide, h, fun _ => t, fun _ => s1, fun h => absurd h (by decide), fun h => absurd h (by decide), fun h => absurd h (by decide)⟩⟩
      · exact .inr ⟨41, rfl, ⟨by decide, h, fun _ => t, fun _ => s1, fun h => absurd h (by decide), fun h => absurd h (by decide), fun h => absurd h (by decide)⟩⟩
      · exact .inr ⟨42, rfl, ⟨by decide, h, fun _ => t, fun _ => s1, fun h => absurd h (by decide), fun h => absurd h (by decide), fun h => absurd h (by decide)⟩⟩
      · exact .inr ⟨43, rfl, ⟨by decide, h, fun _ => t, fun _ => s1, fun h => absurd h (by decide), fun h => absurd h (by decide), fun h => absurd h (by decide)⟩⟩
      · exact .inr ⟨44, rfl, ⟨by decide, h, fun _ => t, fun _ => s1, fun h => absurd h (by decide), fun h => absurd h (by decide), fun h => absurd h (by decide)⟩⟩
      · exact .inr ⟨45, rfl, ⟨by decide, h, fun _ => t, fun _ => s1, fun h => absurd h (by decide), fun h => absurd h (by decide), fun h => absurd h (by decide)⟩⟩
      · exact .inr ⟨46, rfl, ⟨by decide, h, fun _ => t, fun _ => s1, fun h => absurd h (by decide), fun h => absurd h (by decide), fun h => absurd h (by decide)⟩⟩
      · exact .inr ⟨47, rfl, ⟨by decide, h, fun _ => t, fun _ => s1, fun h => absurd h (by decide), fun h => absurd h (by decide), fun h => absurd h (by decide)⟩⟩
    by_cases s2 : x / 33554432 = 32
    · rw [s2]; rcases ht with t | t | t | t | t | t | t | t <;> rw [t]
      · exact .inr ⟨28, rfl, ⟨by decide, h, fun _ => t, fun _ => s2, fun h => absurd h (by decide), fun h => absurd h (by decide), fun h => absurd h (by decide)⟩⟩
      · exact .inl (by decide)
      · exact .inl (by decide)
      · exact .inl (by decide)
      · exact .inl (by decide)
      · exact .inr ⟨34, rfl, ⟨by decide, h, fun _ => t, fun _ => s2, fun h => absurd h (by decide), fun h => absurd h (by decide), fun h => absurd h (by decide)⟩⟩
      · exact .inl (by decide)
      · exact .inl (by decide)
    left; simp [Is.alu, s0, s1, s2]
  rw [if_neg h]; clear h
  by_cases h : x % 128 = 15
  · rw [if_pos h]
    by_cases y : x % 1048576 = 15
    · rw [if_pos y]; exact .inr ⟨37, rfl, ⟨by decide, h, fun h => absurd h (by decide), fun h => absurd h (by decide), fun _ => y, fun h => absurd h (by decide), fun h => absurd h (by decide)⟩⟩
    · rw [if_neg y]; exact .inl rfl
  rw [if_neg h]; clear h
  by_cases h : x % 128 = 115
  · rw [if_pos h]
    by_cases y : x = 115
    · rw [if_pos y]; exact .inr ⟨38, rfl, ⟨by decide, h, fun h => absurd h (by decide), fun h => absurd h (by decide), fun h => absurd h (by decide), fun _ => y, fun h => absurd h (by decide)⟩⟩
    rw [if_neg y]
    by_cases z : x = 1048691
    · rw [if_pos z]; exact .inr ⟨39, rfl, ⟨by decide, h, fun h => absurd h (by decide), fun h => absurd h (by decide), fun h => absurd h (by decide), fun h => absurd h (by decide), fun _ => z⟩⟩
    · rw [if_neg z]; exact .inl rfl
  rw [if_neg h]; exact .inl rfl

theorem Is.signed_bits (J k : Nat) (hk : k = 12 ∨ k = 13 ∨ k = 21) (hJ : J < 2 ^ k) : -(2 ^ (k - 1) : Nat) ≤ Bt.sgn (Bt.sext J k) ∧ Bt.sgn (Bt.sext J k) < (2 ^ (k - 1) : Nat) ∧ (Bt.sgn (Bt.sext J k) % 4294967296).toNat % 2 ^ k = J := by
  rcases hk with rfl | rfl | rfl <;>
    (simp only [Nat.reduceSub, Nat.reducePow] at *; unfold Bt.sext Bt.sgn; simp only [Nat.reduceSub, Nat.reducePow]; (repeat' split) <;> omega)
theorem Is.even_bits (z : Int) (k J : Nat) (hk : k = 13 ∨ k = 21) (h : (z % 4294967296).toNat % 2 ^ k = J) (hJ : J % 2 = 0) : z % 2 = 0 := by
  rcases hk with rfl | rfl <;> (simp only [Nat.reducePow] at h; omega)
theorem Is.rebuild1 (x A code : Nat) (hx : x < 4294967296) (hc : x % 128 = code) (hA : A % 2097152 = Is.jv x) : code + x / 128 % 32 * 128 + A / 4096 % 256 * 4096 + A / 2048 % 2 * 1048576 + A / 2 % 1024 * 2097152 + A / 1048576 % 2 * 2147483648 = x := by
  unfold Is.jv at hA
  have d1 : x / 128 = x / 128 % 32 + 32 * (x / 4096) := by omega
  have d2 : x / 4096 = x / 4096 % 256 + 256 * (x / 1048576) := by omega
  have d3 : x / 1048576 = x / 1048576 % 2 + 2 * (x / 2097152) := by omega
  have d4 : x / 2097152 = x / 2097152 % 1024 + 1024 * (x / 2147483648) := by omega
  have d0 : x = code + 128 * (x / 128) := by omega
  have b1 : x / 2097152 % 1024 < 1024 := Nat.mod_lt _ (by omega)
  have b2 : x / 1048576 % 2 < 2 := Nat.mod_lt _ (by omega)
  have b3 : x / 4096 % 256 < 256 := Nat.mod_lt _ (by omega)
  have b4 : x / 2147483648 < 2 := by omega
  generalize x / 2097152 % 1024 = R at *
  generalize x / 1048576 % 2 = Q at *
  generalize x / 4096 % 256 = P at *
  generalize x / 2147483648 = S at *
  generalize x / 128 % 32 = rd at *
  generalize x / 128 = y1 at *
  generalize x / 4096 = y2 at *
  generalize x / 1048576 = y3 at *
  generalize x / 2097152 = y4 at *
  clear hc hx
  have k1 : A % 2097152 = A / 1048576 % 2 * 1048576 + A % 1048576 := by omega
  have k2 : A % 1048576 = A / 4096 % 256 * 4096 + A % 4096 := by omega
  have k3 : A % 4096 = A / 2048 % 2 * 2048 + A % 2048 := by omega
  have k4 : A % 2048 = A / 2 % 1024 * 2 + A % 2 := by omega
  have l1 : A / 1048576 % 2 < 2 := Nat.mod_lt _ (by omega)
  have l2 : A / 4096 % 256 < 256 := Nat.mod_lt _ (by omega)
  have l3 : A / 2048 % 2 < 2 := Nat.mod_lt _ (by omega)
  have l4 : A / 2 % 1024 < 1024 := Nat.mod_lt _ (by omega)
  have l5 : A % 2 < 2 := Nat.mod_lt _ (by omega)
  rw [k1, k2, k3, k4] at hA
  clear k1 k2 k3 k4
  generalize A / 1048576 % 2 = a1 at *
  generalize A / 4096 % 256 = a2 at *
  generalize A / 2048 % 2 = a3 at *
  generalize A / 2 % 1024 = a4 at *
  generalize A % 2 = a5 at *
  have e1 : a1 = S := by omega
  have e2 : a2 = P := by omega
  have e3 : a3 = Q := by omega
  have e4 : a4 = R := by omega
  subst e1 e2 e3 e4
  omega
theorem Is.rebuild3 (x A code three : Nat) (hx : x < 4294967296) (hc : x % 128 = code) (h3 : x / 4096 % 8 = three) (hA : A % 8192 = Is.bv x) :
    code + A / 2048 % 2 * 128 + A / 2 % 16 * 256 + three * 4096 + x / 32768 % 32 * 32768 + x / 1048576 % 32 * 1048576 + A / 32 % 64 * 33554432 + A / 4096 % 2 * 2147483648 = x := by
  unfold Is.bv at hA
  have d0 : x = code + 128 * (x / 128) := by omega
  have d1 : x / 128 = x / 128 % 2 + 2 * (x / 256) := by omega
  have d2 : x / 256 = x / 256 % 16 + 16 * (x / 4096) := by omega
  have d3 : x / 4096 = x / 4096 % 8 + 8 * (x / 32768) := by omega
  have d4 : x / 32768 = x / 32768 % 32 + 32 * (x / 1048576) := by omega
  have d5 : x / 1048576 = x / 1048576 % 32 + 32 * (x / 33554432) := by omega
  have d6 : x / 33554432 = x / 33554432 % 64 + 64 * (x / 2147483648) := by omega
  have b1 : x / 256 % 16 < 16 := Nat.mod_lt _ (by omega)
  have b2 : x / 33554432 % 64 < 64 := Nat.mod_lt _ (by omega)
  have b3 : x / 128 % 2 < 2 := Nat.mod_lt _ (by omega)
  have b4 : x / 2147483648 < 2 := by omega
  rw [h3] at d3
  clear h3
  generalize x / 256 % 16 = Q at *
  generalize x / 33554432 % 64 = R at *
  generalize x / 128 % 2 = P at *
  generalize x / 2147483648 = S at *
  generalize x / 32768 % 32 = r1 at *
  generalize x / 1048576 % 32 = r2 at *
  generalize x / 128 = y1 at *
  generalize x / 256 = y2 at *
  generalize x / 4096 = y3 at *
  generalize x / 32768 = y4 at *
  generalize x / 1048576 = y5 at *
  generalize x / 33554432 = y6 at *
  clear hc hx
  have k1 : A % 8192 = A / 4096 % 2 * 4096 + A % 4096 := by omega
  have k2 : A % 4096 = A / 2048 % 2 * 2048 + A % 2048 := by omega
  have k3 : A % 2048 = A / 32 % 64 * 32 + A % 32 := by omega
  have k4 : A % 32 = A / 2 % 16 * 2 + A % 2 := by omega
  have l1 : A / 4096 % 2 < 2 := Nat.mod_lt _ (by omega)
  have l2 : A / 2048 % 2 < 2 := Nat.mod_lt _ (by omega)
  have l3 : A / 32 % 64 < 64 := Nat.mod_lt _ (by omega)
  have l4 : A / 2 % 16 < 16 := Nat.mod_lt _ (by omega)
  have l5 : A % 2 < 2 := Nat.mod_lt _ (by omega)
  rw [k1, k2, k3, k4] at hA
  clear k1 k2 k3 k4
  generalize A / 4096 % 2 = a1 at *
  generalize A / 2048 % 2 = a2 at *
  generalize A / 32 % 64 = a3 at *
  generalize A / 2 % 16 = a4 at *
  generalize A % 2 = a5 at *
  have e1 : a1 = S := by omega
  have e2 : a2 = P := by omega
  have e3 : a3 = R := by omega
  have e4 : a4 = Q := by omega
  subst e1 e2 e3 e4
  omega
theorem Is.rebuild4 (x code three : Nat) (hc : x % 128 = code) (h3 : x / 4096 % 8 = three) :
    code + x / 128 % 32 * 128 + three * 4096 + x / 32768 % 32 * 32768 + x / 1048576 % 32 * 1048576 + x / 33554432 * 33554432 = x := by
  have d0 : x = code + 128 * (x / 128) := by omega
  have d1 : x / 128 = x / 128 % 32 + 32 * (x / 4096) := by omega
  have d3 : x / 4096 = x / 4096 % 8 + 8 * (x / 32768) := by omega
  have d4 : x / 32768 = x / 32768 % 32 + 32 * (x / 1048576) := by omega
  have d5 : x / 1048576 = x / 1048576 % 32 + 32 * (x / 33554432) := by omega
  rw [h3] at d3
  clear h3 hc
  generalize x / 128 % 32 = P at *
  generalize x / 32768 % 32 = r1 at *
  generalize x / 1048576 % 32 = r2 at *
  generalize x / 128 = y1 at *
  generalize x / 4096 = y3 at *
  generalize x / 32768 = y4 at *
  generalize x / 1048576 = y5 at *
  generalize x / 33554432 = y6 at *
  omega
theorem Is.fwd (n x : Nat) (hx : x < 4294967296) (hf : Is.find x = (n : Int)) (h : Is.Has n x) : ∃ (rd rs1 rs2 : Nat) (imm : Int), Is.dec x = (⟨n, rd, rs1, rs2, imm⟩, 0) ∧ Is.Good n rd rs1 rs2 imm ∧ Is.word n rd rs1 rs2 imm = x := by
  have hb := Is.form_bd n h.hn
  have hs8 : (Is.form n).shape ≤ 8 := hb.1
  have emp := Is.form_empty n h.hn
  by_cases h38 : n = 38
  · subst h38
    obtain rfl := h.ecall rfl
    exact ⟨0, 0, 0, 0, by decide, ⟨by decide, by decide, by decide, by decide, by decide, by decide, fun h => absurd h (by decide), fun _ => rfl, fun _ => rfl, fun _ => rfl⟩, by decide⟩
  by_cases h39 : n = 39
  · subst h39
    obtain rfl := h.stop rfl
    exact ⟨0, 0, 0, 0, by decide, ⟨by decide, by decide, by decide, by decide, by decide, by decide, fun h => absurd h (by decide), fun _ => rfl, fun _ => rfl, fun _ => rfl⟩, by decide⟩
  have h7 : (Is.form n).shape ≠ 7 := fun k => by rcases emp.2.2.1.1 k with k | k <;> omega
  have hd : Is.dec x = Is.decS x n ((Is.form n).shape : Int) := by rw [Is.dec, hf, Is.shape_form n h.hn]
  have ew : ∀ rd rs1 rs2 imm, Is.word n rd rs1 rs2 imm = Is.wordS (Is.form n).shape (Is.form n).code (Is.form n).three (Is.form n).seven rd rs1 rs2 (imm % 4294967296).toNat := fun rd rs1 rs2 imm => by rw [Is.word, if_neg h38, if_neg h39]
  have hc := h.code; have ht := h.three; have h7' := h.seven; have hfn := h.fence
  have mk := fun (rd rs1 rs2 : Nat) (imm : Int) => @Is.Good.mk n rd rs1 rs2 imm h.hn
  have m1 : x / 128 % 32 < 32 := Nat.mod_lt _ (by omega)
  have m2 : x / 32768 % 32 < 32 := Nat.mod_lt _ (by omega)
  have m3 : x / 1048576 % 32 < 32 := Nat.mod_lt _ (by omega)
  have e0 := emp.1; have e7 := emp.2.1
  have hs : (Is.form n).shape = 0 ∨ (Is.form n).shape = 1 ∨ (Is.form n).shape = 2 ∨ (Is.form n).shape = 3 ∨ (Is.form n).shape = 4 ∨ (Is.form n).shape = 5 ∨ (Is.form n).shape = 6 ∨ (Is.form n).shape = 8 := by omega
  clear emp h hf hs8 hb
  generalize (Is.form n).shape = s at *
  generalize (Is.form n).code = code at *
  generalize (Is.form n).three = three at *
  generalize (Is.form n).seven = seven at *
  rcases hs with rfl | rfl | rfl | rfl | rfl | rfl | rfl | rfl
  · refine ⟨x / 128 % 32, 0, 0, (x / 4096 : Nat), hd, mk _ _ _ _ m1 (by omega) (by omega) (show (0 : Int) ≤ _ by omega) (show _ ≤ (1048575 : Int) by omega) (fun h => by cases h) (fun h => by cases h) (fun _ => rfl) (fun _ => rfl), ?_⟩
    rw [ew]; simp only [Is.wordS]; omega
  · have hJ : Is.jv x < 2 ^ 21 := by unfold Is.jv; omega
    have hJ2 : Is.jv x % 2 = 0 := by unfold Is.jv; omega
    obtain ⟨a1, a2, a3⟩ := Is.signed_bits (Is.jv x) 21 (by omega) hJ
    have a4 := Is.even_bits _ 21 _ (by omega) a3 hJ2
    refine ⟨x / 128 % 32, 0, 0, Bt.sgn (Bt.sext (Is.jv x) 21), hd, ?_, ?_⟩
    · generalize Bt.sgn (Bt.sext (Is.jv x) 21) = z at *
      simp only [Nat.reduceSub, Nat.reducePow] at a1 a2
      exact mk _ _ _ _ m1 (by omega) (by omega) (show (-1048576 : Int) ≤ _ by omega) (show _ ≤ (1048574 : Int) by omega) (fun _ => a4) (fun h => by cases h) (fun _ => rfl) (fun _ => rfl)
    · rw [ew]; simp only [Is.wordS]; exact Is.rebuild1 x _ code hx hc a3
  · have hJ : x / 1048576 < 2 ^ 12 := by simp only [Nat.reducePow]; omega
    obtain ⟨a1, a2, a3⟩ := Is.signed_bits (x / 1048576) 12 (by omega) hJ
    have t3 := ht (by omega)
    refine ⟨x / 128 % 32, x / 32768 % 32, 0, Bt.sgn (Bt.sext (x / 1048576) 12), hd, ?_, ?_⟩
    · generalize Bt.sgn (Bt.sext (x / 1048576) 12) = z at *
      simp only [Nat.reduceSub, Nat.reducePow] at a1 a2
      exact mk _ _ _ _ m1 m2 (by omega) (show (-2048 : Int) ≤ _ by omega) (show _ ≤ (2047 : Int) by omega) (fun h => by cases h) (fun h => by cases h) (fun h => by cases h) (fun _ => rfl)
    · rw [ew]; simp only [Is.wordS]; simp only [Nat.reducePow] at a3; rw [a3]; omega
  · have hJ : Is.bv x < 2 ^ 13 := by unfold Is.bv; omega
    have hJ2 : Is.bv x % 2 = 0 := by unfold Is.bv; omega
    obtain ⟨a1, a2, a3⟩ := Is.signed_bits (Is.bv x) 13 (by omega) hJ
    have a4 := Is.even_bits _ 13 _ (by omega) a3 hJ2
    have t3 := ht (by omega)
    refine ⟨0, x / 32768 % 32, x / 1048576 % 32, Bt.sgn (Bt.sext (Is.bv x) 13), hd, ?_, ?_⟩
    · generalize Bt.sgn (Bt.sext (Is.bv x) 13) = z at *
      simp only [Nat.reduceSub, Nat.reducePow] at a1 a2
      exact mk _ _ _ _ (by omega) m2 m3 (show (-4096 : Int) ≤ _ by omega) (show _ ≤ (4094 : Int) by omega) (fun _ => a4) (fun _ => rfl) (fun h => by cases h) (fun h => by cases h)
    · rw [ew]; simp only [Is.wordS]; exact Is.rebuild3 x _ code three hx hc t3 a3
  · have hJ : Is.sv x < 2 ^ 12 := by unfold Is.sv; simp only [Nat.reducePow]; omega
    obtain ⟨a1, a2, a3⟩ := Is.signed_bits (Is.sv x) 12 (by omega) hJ
    have t3 := ht (by omega)
    refine ⟨0, x / 32768 % 32, x / 1048576 % 32, Bt.sgn (Bt.sext (Is.sv x) 12), hd, ?_, ?_⟩
    · generalize Bt.sgn (Bt.sext (Is.sv x) 12) = z at *
      simp only [Nat.reduceSub, Nat.reducePow] at a1 a2
      exact mk _ _ _ _ (by omega) m2 m3 (show (-2048 : Int) ≤ _ by omega) (show _ ≤ (2047 : Int) by omega) (fun h => by cases h) (fun _ => rfl) (fun h => by cases h) (fun h => by cases h)
    · rw [ew]; simp only [Is.wordS]; simp only [Nat.reducePow] at a3
      generalize (Bt.sgn (Bt.sext (Is.sv x) 12) % 4294967296).toNat = A at *
      unfold Is.sv at a3
      have e1 : A % 32 = x / 128 % 32 := by omega
      have e2 : A / 32 % 128 = x / 33554432 := by omega
      rw [e1, e2]; exact Is.rebuild4 x code three hc t3
  · have t3 := ht (by omega); have t7 := h7' (by omega)
    refine ⟨x / 128 % 32, x / 32768 % 32, 0, (x / 1048576 % 32 : Nat), hd, mk _ _ _ _ m1 m2 (by omega) (show (0 : Int) ≤ _ by omega) (show _ ≤ (31 : Int) by omega) (fun h => by cases h) (fun h => by cases h) (fun h => by cases h) (fun _ => rfl), ?_⟩
    rw [ew]; simp only [Is.wordS]; omega
  · have t3 := ht (by omega); have t7 := h7' (by omega)
    refine ⟨x / 128 % 32, x / 32768 % 32, x / 1048576 % 32, 0, hd, mk _ _ _ _ m1 m2 m3 (show (0 : Int) ≤ 0 by omega) (show 0 ≤ (0 : Int) by omega) (fun h => by cases h) (fun h => by cases h) (fun h => by cases h) (fun h => by cases h), ?_⟩
    rw [ew]; simp only [Is.wordS]; omega
  · have hJ : x / 1048576 < 2 ^ 12 := by simp only [Nat.reducePow]; omega
    obtain ⟨a1, a2, a3⟩ := Is.signed_bits (x / 1048576) 12 (by omega) hJ
    have hff := hfn rfl
    refine ⟨0, 0, 0, Bt.sgn (Bt.sext (x / 1048576) 12), hd, ?_, ?_⟩
    · generalize Bt.sgn (Bt.sext (x / 1048576) 12) = z at *
      simp only [Nat.reduceSub, Nat.reducePow] at a1 a2
      exact mk _ _ _ _ (by omega) (by omega) (by omega) (show (-2048 : Int) ≤ _ by omega) (show _ ≤ (2047 : Int) by omega) (fun h => by cases h) (fun _ => rfl) (fun _ => rfl) (fun _ => rfl)
    · rw [ew]; simp only [Is.wordS]; simp only [Nat.reducePow] at a3; rw [a3]; omega

end Go.Proofs.YtfafdkbnmfpbmaaGreatDoor
