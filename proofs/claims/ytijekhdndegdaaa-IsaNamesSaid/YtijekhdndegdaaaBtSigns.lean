/- The law BitsSigns. -/
import Derived.Test.YtijekhdndegdaaaBtLaws
namespace Go.Proofs.Ytijekhdndegdaaa
open Go.RowKit
set_option linter.unusedVariables false
set_option linter.unusedSimpArgs false

/-- The lowest k bits, signed. -/
def Bt.sext (a k : Nat) : Nat := if a / 2 ^ (k - 1) % 2 = 1 then a % 2 ^ k + (4294967296 - 2 ^ k) else a % 2 ^ k
theorem Bt.upto32 {p : Nat → Prop} (h : ∀ k : Fin 33, 1 ≤ k.val → p k.val) : ∀ k, 1 ≤ k → k ≤ 32 → p k := fun k h1 h2 => h ⟨k, by omega⟩ h1
theorem Bt.cases32 {k : Nat} (h1 : 1 ≤ k) (h2 : k ≤ 32) : k = 1 ∨ k = 2 ∨ k = 3 ∨ k = 4 ∨ k = 5 ∨ k = 6 ∨ k = 7 ∨ k = 8 ∨ k = 9 ∨ k = 10 ∨ k = 11 ∨ k = 12 ∨ k = 13 ∨ k = 14 ∨ k = 15 ∨ k = 16 ∨ k = 17 ∨ k = 18 ∨ k = 19 ∨ k = 20 ∨ k = 21 ∨ k = 22 ∨ k = 23 ∨ k = 24 ∨ k = 25 ∨ k = 26 ∨ k = 27 ∨ k = 28 ∨ k = 29 ∨ k = 30 ∨ k = 31 ∨ k = 32 := by omega
theorem Bt.sext_eq (a k : Nat) (ha : a < 4294967296) (h1 : 1 ≤ k) (h2 : k ≤ 32) : wrap32 ((a : Int) * 2 ^ (32 - k) % 4294967296) / 2 ^ (32 - k) % 4294967296 = (Bt.sext a k : Int) := by
  rcases Bt.cases32 h1 h2 with rfl | rfl | rfl | rfl | rfl | rfl | rfl | rfl | rfl | rfl | rfl | rfl | rfl | rfl | rfl | rfl | rfl | rfl | rfl | rfl | rfl | rfl | rfl | rfl | rfl | rfl | rfl | rfl | rfl | rfl | rfl | rfl <;>
    (unfold Bt.sext wrap32; simp only [Nat.reduceSub, Nat.reducePow, Int.reducePow, Nat.sub_self, Nat.pow_zero, Int.pow_zero]; split <;> omega)
theorem Bt.sext_lt (a k : Nat) (ha : a < 4294967296) (h1 : 1 ≤ k) (h2 : k ≤ 32) : Bt.sext a k < 4294967296 := by
  have h := Bt.sext_eq a k ha h1 h2
  omega
theorem Bt.sext_low (a k : Nat) (ha : a < 4294967296) (h1 : 1 ≤ k) (h2 : k ≤ 32) : Bt.sext a k % 2 ^ k = a % 2 ^ k := by
  rcases Bt.cases32 h1 h2 with rfl | rfl | rfl | rfl | rfl | rfl | rfl | rfl | rfl | rfl | rfl | rfl | rfl | rfl | rfl | rfl | rfl | rfl | rfl | rfl | rfl | rfl | rfl | rfl | rfl | rfl | rfl | rfl | rfl | rfl | rfl | rfl <;>
    (unfold Bt.sext; simp only [Nat.reduceSub, Nat.reducePow]; split <;> omega)
theorem Bt.sext_again (a k : Nat) (ha : a < 4294967296) (h1 : 1 ≤ k) (h2 : k ≤ 32) : Bt.sext (Bt.sext a k) k = Bt.sext a k := by
  rcases Bt.cases32 h1 h2 with rfl | rfl | rfl | rfl | rfl | rfl | rfl | rfl | rfl | rfl | rfl | rfl | rfl | rfl | rfl | rfl | rfl | rfl | rfl | rfl | rfl | rfl | rfl | rfl | rfl | rfl | rfl | rfl | rfl | rfl | rfl | rfl <;>
    (unfold Bt.sext; simp only [Nat.reduceSub, Nat.reducePow]; (repeat' split) <;> omega)
theorem Bt.sext_sign (a k : Nat) (ha : a < 4294967296) (h1 : 1 ≤ k) (h2 : k ≤ 32) : decide (Bt.sgn (Bt.sext a k) < Bt.sgn 0) = decide (a / 2 ^ (k - 1) % 2 = 1) := by
  rcases Bt.cases32 h1 h2 with rfl | rfl | rfl | rfl | rfl | rfl | rfl | rfl | rfl | rfl | rfl | rfl | rfl | rfl | rfl | rfl | rfl | rfl | rfl | rfl | rfl | rfl | rfl | rfl | rfl | rfl | rfl | rfl | rfl | rfl | rfl | rfl <;>
    (rw [decide_eq_decide]; unfold Bt.sext Bt.sgn; simp only [Nat.reduceSub, Nat.reducePow]; (repeat' split) <;> omega)

theorem sext_nat (a : Nat) (n : Int) (w : World) (ha : a < 4294967296) (h1 : 1 ≤ n) (h2 : n ≤ 32) : Calls Try.prog 25 #[.int .u32 a, .int .i64 n] w fun e w' =>
    e = .returned (.int .u32 (Bt.sext a n.toNat : Int)) ∧ w = w' := by
  have := sext_any a n w ha h1 h2
  rw [show (32 - n).toNat = 32 - n.toNat by omega, Bt.sext_eq a n.toNat ha (by omega) (by omega)] at this
  exact this
theorem Bt.field_eq (x k : Nat) (hx : x < 4294967296) (h2 : k ≤ 32) : bits .and .u32 (x : Int) ((2 ^ k - 1) % 4294967296) = ((x % 2 ^ k : Nat) : Int) := by
  have hp : 2 ^ k ≤ 2 ^ 32 := Nat.pow_le_pow_right (by omega) h2
  have hp0 : 0 < 2 ^ k := Nat.two_pow_pos k
  have e : ((2 : Int) ^ k - 1) % 4294967296 = ((2 ^ k - 1 : Nat) : Int) := by
    rw [Int.natCast_sub (by omega)]
    simp only [Int.natCast_pow, Int.cast_ofNat_Int]
    have : (2 : Int) ^ k = ((2 ^ k : Nat) : Int) := by simp
    omega
  rw [e]
  have h : (BitVec.ofInt 32 (x : Int)).toNat = x := by rw [BitVec.ofInt_natCast, BitVec.toNat_ofNat]; exact Nat.mod_eq_of_lt (by omega)
  have h' : (BitVec.ofInt 32 ((2 ^ k - 1 : Nat) : Int)).toNat = 2 ^ k - 1 := by rw [BitVec.ofInt_natCast, BitVec.toNat_ofNat]; exact Nat.mod_eq_of_lt (by omega)
  show IntKind.u32.wrap ((BitVec.ofInt 32 (x : Int) &&& BitVec.ofInt 32 ((2 ^ k - 1 : Nat) : Int)).toNat : Int) = _
  rw [BitVec.toNat_and, h, h', Nat.and_two_pow_sub_one_eq_mod, IntKind.wrap_u32]
  have := Nat.mod_le x (2 ^ k)
  omega
theorem field_nat (a : Nat) (k n : Int) (w : World) (ha : a < 4294967296) (h0 : 0 ≤ k) (h1 : 1 ≤ n) (h2 : k ≤ 32) (h3 : n ≤ 32 - k) : Calls Try.prog 26 #[.int .u32 a, .int .i64 k, .int .i64 n] w fun e w' =>
    e = .returned (.int .u32 ((a / 2 ^ k.toNat % 2 ^ n.toNat : Nat) : Int)) ∧ w = w' := by
  go_enter Try.func26, Try.ntmps26
  go_wp2
  go_ret
  refine ⟨ret_int ?_, rfl⟩
  have := Bt.field_eq (a / 2 ^ k.toNat) n.toNat (Nat.lt_of_le_of_lt (Nat.div_le_self _ _) ha) (by omega)
  rw [← this]
  simp

theorem walk_bitsSigns (A n : Int) (w : World) (hA : 0 ≤ A ∧ A ≤ 4294967295) (hn : -9223372036854775808 ≤ n ∧ n ≤ 9223372036854775807) :
    Calls Try.prog 4 #[.int .u32 A, .int .i64 n] w fun e w' => e = .returned (.bool true) ∧ Below w.heap.size w w' := by
  obtain ⟨a, rfl⟩ := Int.eq_ofNat_of_zero_le hA.1
  have ha : a < 4294967296 := by omega
  clear hA
  have hT1 := Int.tmod_lt_of_pos n (show (0 : Int) < 32 by omega)
  have hT2 := Int.lt_tmod_of_pos n (show (0 : Int) < 32 by omega)
  obtain ⟨T, hT⟩ : ∃ T : Int, n.tmod 32 = T := ⟨_, rfl⟩
  rw [hT] at hT1 hT2
  clear hn
  go_enter Try.func4, Try.ntmps4
  go_wp2_with fail
  have hK1 : 1 ≤ 1 + T % 32 := by omega
  have hK2 : 1 + T % 32 ≤ 32 := by omega
  generalize 1 + T % 32 = K at *
  have k1 : 1 ≤ K.toNat := by omega
  have k2 : K.toNat ≤ 32 := by omega
  have hS := Bt.sext_lt a K.toNat ha k1 k2
  have c1 := Lib.hid (fun w => sext_nat a K w ha hK1 hK2)
  have c2 := Lib.hid (fun w => field_nat (Bt.sext a K.toNat) 0 K w hS (by omega) hK1 (by omega) (by omega))
  have c3 := Lib.hid (fun w => field_nat a 0 K w ha (by omega) hK1 (by omega) (by omega))
  have c4 := Lib.hid (fun w => sext_nat (Bt.sext a K.toNat) K w hS hK1 hK2)
  have c5 := Lib.hid (fun w => less_any (Bt.sext a K.toNat) 0 w hS (by omega))
  have c6 := Lib.hid (fun w => field_nat a (K - 1) 1 w ha (by omega) (by omega) (by omega) (by omega))
  have e6 : (K - 1).toNat = K.toNat - 1 := by omega
  rw [Int.toNat_zero, Nat.pow_zero, Nat.div_one, Bt.sext_low a K.toNat ha k1 k2] at c2
  rw [Int.toNat_zero, Nat.pow_zero, Nat.div_one] at c3
  rw [Bt.sext_again a K.toNat ha k1 k2] at c4
  rw [Bt.sext_sign a K.toNat ha k1 k2] at c5
  rw [e6, show (1 : Int).toNat = 1 from rfl, Nat.pow_one] at c6
  have hG : (((a / 2 ^ (K.toNat - 1) % 2 : Nat) : Int) == 1) = decide (a / 2 ^ (K.toNat - 1) % 2 = 1) := by
    rw [Bool.eq_iff_iff, beq_iff_eq, decide_eq_true_iff]; omega
  generalize a / 2 ^ (K.toNat - 1) % 2 = G at *
  generalize decide (G = 1) = B at *
  generalize a % 2 ^ K.toNat = F at *
  generalize Bt.sext a K.toNat = S at *
  clear k1 k2 hS e6 hT hT1 hT2
  refine (c1.out _).mono ?_
  rintro e w' ⟨rfl, rfl⟩
  go_wp2_with fail
  refine (c2.out _).mono ?_
  rintro e w' ⟨rfl, rfl⟩
  go_wp2_with fail
  refine (c3.out _).mono ?_
  rintro e w' ⟨rfl, rfl⟩
  go_wp2_with fail
  refine (c4.out _).mono ?_
  rintro e w' ⟨rfl, rfl⟩
  go_wp2_with fail
  refine (c5.out _).mono ?_
  rintro e w' ⟨rfl, rfl⟩
  go_wp2_with fail
  refine (c6.out _).mono ?_
  rintro e w' ⟨rfl, rfl⟩
  go_wp2_with (go_at_call 28; refine (knows_any _).mono ?_; rintro e w1 ⟨rfl, hb1⟩)
  go_ret
  exact ⟨rfl, hb1⟩

end Go.Proofs.Ytijekhdndegdaaa
