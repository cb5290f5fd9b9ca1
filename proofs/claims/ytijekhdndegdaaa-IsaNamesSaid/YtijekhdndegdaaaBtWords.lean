/- The law BitsWords. -/
import Derived.Test.YtijekhdndegdaaaBtSigns
import Derived.Test.YtijekhdndegdaaaBtRef
namespace Go.Proofs.Ytijekhdndegdaaa
open Go.RowKit
set_option linter.unusedVariables false
set_option linter.unusedSimpArgs false

theorem Bt.and_i64 (x y : Nat) (hx : x < 9223372036854775808) (hy : y < 9223372036854775808) : bits .and .i64 (x : Int) (y : Int) = ((x &&& y : Nat) : Int) := by
  have h : (BitVec.ofInt 64 (x : Int)).toNat = x := by rw [BitVec.ofInt_natCast, BitVec.toNat_ofNat]; exact Nat.mod_eq_of_lt (by omega)
  have h' : (BitVec.ofInt 64 (y : Int)).toNat = y := by rw [BitVec.ofInt_natCast, BitVec.toNat_ofNat]; exact Nat.mod_eq_of_lt (by omega)
  show IntKind.i64.wrap ((BitVec.ofInt 64 (x : Int) &&& BitVec.ofInt 64 (y : Int)).toNat : Int) = _
  have h3 : x &&& y ≤ x := Nat.and_le_left
  rw [BitVec.toNat_and, h, h', IntKind.wrap_i64]
  omega
theorem Bt.pow_int (k : Nat) : (2 : Int) ^ k = ((2 ^ k : Nat) : Int) := by simp
theorem Bt.wrap_pow (k : Nat) (hk : k ≤ 32) : wrap64 (2 ^ k) = ((2 ^ k : Nat) : Int) := by
  have hp : 2 ^ k ≤ 2 ^ 32 := Nat.pow_le_pow_right (by omega) hk
  rw [Bt.pow_int]; generalize (2 ^ k : Nat) = P at *; exact IntWalk.wrap64_in _ (by omega)
theorem Bt.and_mask (x k : Nat) (hx : x < 4294967296) (hk : k ≤ 32) : bits .and .i64 (x : Int) (wrap64 (wrap64 (2 ^ k) - 1)) = ((x % 2 ^ k : Nat) : Int) := by
  have hp : 2 ^ k ≤ 2 ^ 32 := Nat.pow_le_pow_right (by omega) hk
  have hp0 : 0 < 2 ^ k := Nat.two_pow_pos k
  rw [Bt.wrap_pow k hk, show ((2 ^ k : Nat) : Int) - 1 = ((2 ^ k - 1 : Nat) : Int) by omega, IntWalk.wrap64_in _ (by omega), Bt.and_i64 x _ (by omega) (by omega), Nat.and_two_pow_sub_one_eq_mod]
theorem Bt.rsext1 (a k : Nat) (ha : a < 4294967296) (h1 : 1 ≤ k) (h2 : k ≤ 32) (hS : a % 2 ^ k / 2 ^ (k - 1) % 2 = 1) : (((a % 2 ^ k : Nat) : Int) - ((2 ^ k : Nat) : Int)) % 4294967296 = (Bt.sext a k : Int) := by
  rcases Bt.cases32 h1 h2 with rfl | rfl | rfl | rfl | rfl | rfl | rfl | rfl | rfl | rfl | rfl | rfl | rfl | rfl | rfl | rfl | rfl | rfl | rfl | rfl | rfl | rfl | rfl | rfl | rfl | rfl | rfl | rfl | rfl | rfl | rfl | rfl <;>
    (unfold Bt.sext; simp only [Nat.reduceSub, Nat.reducePow] at *; split <;> omega)
theorem Bt.rsext0 (a k : Nat) (ha : a < 4294967296) (h1 : 1 ≤ k) (h2 : k ≤ 32) (hS : ¬ a % 2 ^ k / 2 ^ (k - 1) % 2 = 1) : ((a % 2 ^ k : Nat) : Int) % 4294967296 = (Bt.sext a k : Int) := by
  rcases Bt.cases32 h1 h2 with rfl | rfl | rfl | rfl | rfl | rfl | rfl | rfl | rfl | rfl | rfl | rfl | rfl | rfl | rfl | rfl | rfl | rfl | rfl | rfl | rfl | rfl | rfl | rfl | rfl | rfl | rfl | rfl | rfl | rfl | rfl | rfl <;>
    (unfold Bt.sext; simp only [Nat.reduceSub, Nat.reducePow] at *; split <;> omega)

theorem rsext_in (a : Nat) (n : Int) (w : World) (ha : a < 4294967296) (h1 : 1 ≤ n) (h2 : n ≤ 32) : Calls Try.prog 40 #[.int .u32 a, .int .i64 n] w fun e w' =>
    e = .returned (.int .u32 (Bt.sext a n.toNat : Int)) ∧ w = w' := by
  have F1 := Bt.and_mask a n.toNat ha (by omega)
  have HW := Lib.hid (Bt.wrap_pow n.toNat (by omega))
  have hp : 2 ^ n.toNat ≤ 2 ^ 32 := Nat.pow_le_pow_right (by omega) (by omega)
  have hm : a % 2 ^ n.toNat ≤ a := Nat.mod_le _ _
  have R1 := Bt.rsext1 a n.toNat ha (by omega) (by omega)
  have R0 := Bt.rsext0 a n.toNat ha (by omega) (by omega)
  have HP := Lib.hid hp
  generalize hM : a % 2 ^ n.toNat = M at *
  generalize hS : Bt.sext a n.toNat = S at *
  have F2 : bits .and .i64 ((M : Int) / 2 ^ (n.toNat - 1)) 1 = ((M / 2 ^ (n.toNat - 1) % 2 : Nat) : Int) := by
    have h := Bt.and_i64 (M / 2 ^ (n.toNat - 1)) 1 (Nat.lt_of_le_of_lt (Nat.div_le_self _ _) (by omega)) (by omega)
    rw [Nat.and_one_is_mod] at h
    rw [← h]
    simp
  generalize M / 2 ^ (n.toNat - 1) % 2 = T at *
  have HR1 := Lib.hid R1; have HR0 := Lib.hid R0
  clear hM hS R1 R0 hp
  by_cases hT : T = 1
  · have hT' : ((T : Int) == 1) = true := by simp [hT]
    have HT := Lib.hid hT
    clear hT
    go_enter Try.func40, Try.ntmps40
    go_wp2
    go_ret
    refine ⟨ret_int ?_, rfl⟩
    have := HR1.out HT.out
    have hP := HP.out
    rw [HW.out]
    generalize 2 ^ n.toNat = P at *
    rw [IntWalk.wrap64_in _ (by omega)]
    exact this
  · have hT' : ((T : Int) == 1) = false := by simp; omega
    have HT := Lib.hid hT
    clear hT
    go_enter Try.func40, Try.ntmps40
    go_wp2
    go_ret
    exact ⟨ret_int (by have := HR0.out HT.out; omega), rfl⟩
theorem sext_out (a : Nat) (n : Int) (w : World) (h : ¬ (1 ≤ n ∧ n ≤ 32)) : Calls Try.prog 25 #[.int .u32 a, .int .i64 n] w fun e w' => e = .returned (.int .u32 0) ∧ w = w' := by
  by_cases h1 : n < 1
  · clear h
    go_enter Try.func25, Try.ntmps25
    go_wp2
    go_ret
    exact ⟨rfl, rfl⟩
  · have h2 : 32 < n := by omega
    clear h
    go_enter Try.func25, Try.ntmps25
    go_wp2
    go_ret
    exact ⟨rfl, rfl⟩
theorem rsext_out (a : Nat) (n : Int) (w : World) (h : ¬ (1 ≤ n ∧ n ≤ 32)) : Calls Try.prog 40 #[.int .u32 a, .int .i64 n] w fun e w' => e = .returned (.int .u32 0) ∧ w = w' := by
  by_cases h1 : n < 1
  · clear h
    go_enter Try.func40, Try.ntmps40
    go_wp2
    go_ret
    exact ⟨rfl, rfl⟩
  · have h2 : 32 < n := by omega
    clear h
    go_enter Try.func40, Try.ntmps40
    go_wp2
    go_ret
    exact ⟨rfl, rfl⟩
def Bt.sextV (a : Nat) (n : Int) : Int := if 1 ≤ n ∧ n ≤ 32 then (Bt.sext a n.toNat : Int) else 0
theorem sext_v (a : Nat) (n : Int) (w : World) (ha : a < 4294967296) : Calls Try.prog 25 #[.int .u32 a, .int .i64 n] w fun e w' => e = .returned (.int .u32 (Bt.sextV a n)) ∧ w = w' := by
  unfold Bt.sextV
  split
  · rename_i h; exact sext_nat a n w ha h.1 h.2
  · rename_i h; exact sext_out a n w h
theorem rsext_v (a : Nat) (n : Int) (w : World) (ha : a < 4294967296) : Calls Try.prog 40 #[.int .u32 a, .int .i64 n] w fun e w' => e = .returned (.int .u32 (Bt.sextV a n)) ∧ w = w' := by
  unfold Bt.sextV
  split
  · rename_i h; exact rsext_in a n w ha h.1 h.2
  · rename_i h; exact rsext_out a n w h

theorem Bt.and_u64 (x k : Nat) (hx : x < 4294967296) (h2 : k ≤ 32) : bits .and .u64 (x : Int) (IntKind.u64.wrap (IntKind.u64.wrap (2 ^ k) - 1)) = ((x % 2 ^ k : Nat) : Int) := by
  have hp : 2 ^ k ≤ 2 ^ 32 := Nat.pow_le_pow_right (by omega) h2
  have hp0 : 0 < 2 ^ k := Nat.two_pow_pos k
  have e : IntKind.u64.wrap (IntKind.u64.wrap (2 ^ k) - 1) = ((2 ^ k - 1 : Nat) : Int) := by
    rw [Bt.pow_int, IntKind.wrap_u64, IntKind.wrap_u64]; omega
  rw [e, bits_and_u64_nat x _ (by omega) (by omega), Nat.and_two_pow_sub_one_eq_mod]
theorem rfield_in (a : Nat) (k n : Int) (w : World) (ha : a < 4294967296) (h0 : 0 ≤ k) (h1 : 1 ≤ n) (h2 : k ≤ 32) (h3 : n ≤ 32 - k) : Calls Try.prog 41 #[.int .u32 a, .int .i64 k, .int .i64 n] w fun e w' =>
    e = .returned (.int .u32 ((a / 2 ^ k.toNat % 2 ^ n.toNat : Nat) : Int)) ∧ w = w' := by
  have hlt : a / 2 ^ k.toNat < 4294967296 := Nat.lt_of_le_of_lt (Nat.div_le_self _ _) ha
  have F1 := Bt.and_u64 (a / 2 ^ k.toNat) n.toNat hlt (by omega)
  have hm : a / 2 ^ k.toNat % 2 ^ n.toNat ≤ a / 2 ^ k.toNat := Nat.mod_le _ _
  have e : ((a / 2 ^ k.toNat : Nat) : Int) = (a : Int) / 2 ^ k.toNat := by simp
  rw [e] at F1
  generalize a / 2 ^ k.toNat % 2 ^ n.toNat = M at *
  have hM : M < 4294967296 := by omega
  clear e hm hlt
  go_enter Try.func41, Try.ntmps41
  go_wp2
  go_ret
  exact ⟨ret_int (by omega), rfl⟩
def Bt.fieldV (a : Nat) (k n : Int) : Int := if 0 ≤ k ∧ 1 ≤ n ∧ k ≤ 32 ∧ n ≤ 32 - k then ((a / 2 ^ k.toNat % 2 ^ n.toNat : Nat) : Int) else 0
theorem field_v (a : Nat) (k n : Int) (w : World) (ha : a < 4294967296) : Calls Try.prog 26 #[.int .u32 a, .int .i64 k, .int .i64 n] w fun e w' => e = .returned (.int .u32 (Bt.fieldV a k n)) ∧ w = w' := by
  unfold Bt.fieldV
  split
  · rename_i h; exact field_nat a k n w ha h.1 h.2.1 h.2.2.1 h.2.2.2
  · rename_i h
    by_cases c1 : k < 0
    · clear h
      go_enter Try.func26, Try.ntmps26
      go_wp2
      go_ret
      exact ⟨rfl, rfl⟩
    by_cases c2 : n < 1
    · clear h
      go_enter Try.func26, Try.ntmps26
      go_wp2
      go_ret
      exact ⟨rfl, rfl⟩
    by_cases c3 : 32 < k
    · clear h
      go_enter Try.func26, Try.ntmps26
      go_wp2
      go_ret
      exact ⟨rfl, rfl⟩
    have c4 : 32 - k < n := by omega
    clear h
    go_enter Try.func26, Try.ntmps26
    go_wp2
    go_ret
    exact ⟨rfl, rfl⟩
theorem rfield_v (a : Nat) (k n : Int) (w : World) (ha : a < 4294967296) : Calls Try.prog 41 #[.int .u32 a, .int .i64 k, .int .i64 n] w fun e w' => e = .returned (.int .u32 (Bt.fieldV a k n)) ∧ w = w' := by
  unfold Bt.fieldV
  split
  · rename_i h; exact rfield_in a k n w ha h.1 h.2.1 h.2.2.1 h.2.2.2
  · rename_i h
    by_cases c1 : k < 0
    · clear h
      go_enter Try.func41, Try.ntmps41
      go_wp2
      go_ret
      exact ⟨rfl, rfl⟩
    by_cases c2 : n < 1
    · clear h
      go_enter Try.func41, Try.ntmps41
      go_wp2
      go_ret
      exact ⟨rfl, rfl⟩
    by_cases c3 : 32 < k
    · clear h
      go_enter Try.func41, Try.ntmps41
      go_wp2
      go_ret
      exact ⟨rfl, rfl⟩
    have c4 : 32 - k < n := by omega
    clear h
    go_enter Try.func41, Try.ntmps41
    go_wp2
    go_ret
    exact ⟨rfl, rfl⟩

def Bt.shiftV (a b : Nat) (k : Int) : Int :=
  if k = 0 then (a : Int) * 2 ^ (b % 32) % 4294967296 else if k = 1 then (a : Int) / 2 ^ (b % 32) else if k = 2 then Bt.sgn a / 2 ^ (b % 32) % 4294967296 else 0
theorem shift_own (a b : Nat) (k : Int) (w : World) (ha : a < 4294967296) (hb : b < 4294967296) : Calls Try.prog 42 #[.int .u32 a, .int .u32 b, .int .i64 k] w fun e w' =>
    e = .returned (.int .u32 (Bt.shiftV a b k)) ∧ w = w' := by
  have F : bits .and .u32 (b : Int) 31 = ((b % 32 : Nat) : Int) := Bt.field_eq b 5 hb (by omega)
  have hB : b % 32 < 32 := Nat.mod_lt _ (by omega)
  unfold Bt.shiftV
  generalize b % 32 = B at *
  have HW := Lib.hid (Bt.wrap32_eq ha)
  by_cases h0 : k = 0
  · subst h0
    go_enter Try.func42, Try.ntmps42
    go_wp2
    go_ret
    exact ⟨ret_int rfl, rfl⟩
  have g0 : (k == 0) = false := by simpa using h0
  rw [if_neg h0]
  clear h0
  by_cases h1 : k = 1
  · subst h1
    go_enter Try.func42, Try.ntmps42
    go_wp2
    go_ret
    exact ⟨ret_int rfl, rfl⟩
  have g1 : (k == 1) = false := by simpa using h1
  rw [if_neg h1]
  clear h1
  by_cases h2 : k = 2
  · subst h2
    go_enter Try.func42, Try.ntmps42
    go_wp2
    go_ret
    exact ⟨ret_int (by rw [HW.out]), rfl⟩
  have g2 : (k == 2) = false := by simpa using h2
  rw [if_neg h2]
  clear h2
  go_enter Try.func42, Try.ntmps42
  go_wp2
  go_ret
  exact ⟨rfl, rfl⟩
theorem Bt.shl_wrap (a B : Nat) : IntKind.u64.wrap ((a : Int) * 2 ^ B) % 4294967296 = (a : Int) * 2 ^ B % 4294967296 := by
  rw [IntKind.wrap_u64]; generalize (a : Int) * 2 ^ B = x; omega
theorem Bt.div_bd (a : Nat) (B : Nat) (ha : a < 4294967296) : 0 ≤ (a : Int) / 2 ^ B ∧ (a : Int) / 2 ^ B < 4294967296 := by
  have h := Nat.div_le_self a (2 ^ B)
  have e : ((a / 2 ^ B : Nat) : Int) = (a : Int) / 2 ^ B := by simp
  rw [← e]; generalize a / 2 ^ B = x at *; omega
theorem shift_ref (a b : Nat) (k : Int) (w : World) (ha : a < 4294967296) (hb : b < 4294967296) : Calls Try.prog 43 #[.int .u32 a, .int .u32 b, .int .i64 k] w fun e w' =>
    e = .returned (.int .u32 (Bt.shiftV a b k)) ∧ w = w' := by
  unfold Bt.shiftV
  by_cases h0 : k = 0
  · subst h0
    go_enter Try.func43, Try.ntmps43
    go_wp2
    go_ret
    exact ⟨ret_int (by rw [Bt.shl_wrap]), rfl⟩
  have g0 : (k == 0) = false := by simpa using h0
  rw [if_neg h0]
  clear h0
  by_cases h1 : k = 1
  · subst h1
    have hd := Bt.div_bd a (b % 32) ha
    go_enter Try.func43, Try.ntmps43
    go_wp2
    go_ret
    exact ⟨ret_int rfl, rfl⟩
  have g1 : (k == 1) = false := by simpa using h1
  rw [if_neg h1]
  clear h1
  by_cases h2 : k = 2
  · subst h2
    go_enter Try.func43, Try.ntmps43
    go_wp2_with (go_at_call 32; refine (signed_any _ _ (by assumption)).mono ?_; rintro e w' ⟨rfl, rfl⟩)
    go_ret
    exact ⟨ret_int rfl, rfl⟩
  have g2 : (k == 2) = false := by simpa using h2
  rw [if_neg h2]
  clear h2
  go_enter Try.func43, Try.ntmps43
  go_wp2
  go_ret
  exact ⟨rfl, rfl⟩

set_option maxHeartbeats 1000000 in
theorem walk_bitsWords (V W n k : Int) (w : World) (hV : 0 ≤ V ∧ V ≤ 4294967295) (hW : 0 ≤ W ∧ W ≤ 4294967295) (hn : -9223372036854775808 ≤ n ∧ n ≤ 9223372036854775807) (hk : -9223372036854775808 ≤ k ∧ k ≤ 9223372036854775807) :
    Calls Try.prog 8 #[.int .u32 V, .int .u32 W, .int .i64 n, .int .i64 k] w fun e w' => e = .returned (.bool true) ∧ Below w.heap.size w w' := by
  obtain ⟨a, rfl⟩ := Int.eq_ofNat_of_zero_le hV.1
  obtain ⟨b, rfl⟩ := Int.eq_ofNat_of_zero_le hW.1
  have ha : a < 4294967296 := by omega
  have hb : b < 4294967296 := by omega
  clear hV hW
  have c1 := Lib.hid (fun w => sext_v a n w ha)
  have c2 := Lib.hid (fun w => rsext_v a n w ha)
  have c3 := Lib.hid (fun w => field_v a k n w ha)
  have c4 := Lib.hid (fun w => rfield_v a k n w ha)
  have c5 := Lib.hid (fun w => shift_own a b n w ha hb)
  have c6 := Lib.hid (fun w => shift_ref a b n w ha hb)
  have c7 := Lib.hid (fun w => less_any a b w ha hb)
  have c8 := Lib.hid (fun w => signed_any a w ha)
  have c9 := Lib.hid (fun w => signed_any b w hb)
  generalize Bt.sextV a n = X1 at *
  generalize Bt.fieldV a k n = X2 at *
  generalize Bt.shiftV a b n = X3 at *
  generalize Bt.sgn a = X4 at *
  generalize Bt.sgn b = X5 at *
  go_enter Try.func8, Try.ntmps8
  go_wp2_with fail
  refine (c1.out _).mono ?_
  rintro e w' ⟨rfl, rfl⟩
  go_wp2_with fail
  refine (c2.out _).mono ?_
  rintro e w' ⟨rfl, rfl⟩
  go_wp2_with fail
  refine (c3.out _).mono ?_
  rintro e w' ⟨rfl, rfl⟩
  go_wp2_with fail
  refine (c4.out _).mono ?_
  rintro e w' ⟨rfl, rfl⟩
  go_wp2_with fail
  refine (c5.out _).mono ?_
  rintro e w' ⟨rfl, rfl⟩
  go_wp2_with fail
  refine (c6.out _).mono ?_
  rintro e w' ⟨rfl, rfl⟩
  go_wp2_with fail
  refine (c7.out _).mono ?_
  rintro e w' ⟨rfl, rfl⟩
  go_wp2_with fail
  refine (c8.out _).mono ?_
  rintro e w' ⟨rfl, rfl⟩
  go_wp2_with fail
  refine (c9.out _).mono ?_
  rintro e w' ⟨rfl, rfl⟩
  go_wp2_with (go_at_call 28; refine (knows_any _).mono ?_; rintro e w7 ⟨rfl, hb7⟩)
  go_ret
  exact ⟨rfl, hb7⟩

end Go.Proofs.Ytijekhdndegdaaa
