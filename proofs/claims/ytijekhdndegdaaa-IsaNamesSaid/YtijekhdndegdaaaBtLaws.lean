/- What must be known; the laws BitsHalves, BitsSigns. -/
import Derived.Test.YtijekhdndegdaaaBtFm
namespace Go.Proofs.Ytijekhdndegdaaa
open Go.RowKit
set_option linter.unusedVariables false
set_option linter.unusedSimpArgs false

theorem knows_fm (w : World) : Calls Try.prog 38 #[.int .u64 18446744073709551609, .int .u32 2] w fun e w' => e = .returned (.tuple #[.int .u32 4294967292, .int .u32 1, .bool true]) ∧ Below w.heap.size w w' := by
  have h1 : SizeAt ((18446744073709551609 : Nat) : Int) 7 true := fun w => size_high 18446744073709551609 w (by omega) (by omega)
  have e : Bt.wide 2 = ((2 : Nat) : Int) := by
    unfold Bt.wide; rw [Bt.wrap64_32, Bt.wrap32_eq (by omega), Bt.sgn, if_pos (by omega), IntKind.wrap_u64]; omega
  have h2 : SizeAt (Bt.wide 2) 2 false := fun w => by rw [e]; exact size_low 2 w (by omega)
  have h3 := fmmod_core 18446744073709551609 2 7 2 true false w h1 h2 (by omega) (by omega) (by omega)
  have h4 : Bt.fmOut 7 2 true false = (4294967292, 1, true) := by decide
  rw [h4] at h3
  exact h3

theorem sext_any (a : Nat) (n : Int) (w : World) (ha : a < 4294967296) (h1 : 1 ≤ n) (h2 : n ≤ 32) : Calls Try.prog 25 #[.int .u32 a, .int .i64 n] w fun e w' =>
    e = .returned (.int .u32 (wrap32 ((a : Int) * 2 ^ (32 - n).toNat % 4294967296) / 2 ^ (32 - n).toNat % 4294967296)) ∧ w = w' := by
  go_enter Try.func25, Try.ntmps25
  go_wp2
  go_ret
  exact ⟨rfl, rfl⟩

theorem knows_any (w : World) : Calls Try.prog 28 #[] w fun e w' => e = .returned (.bool true) ∧ Below w.heap.size w w' := by
  have e1 : wrap32 4293918720 = -1048576 := by unfold wrap32; omega
  have e2 : wrap32 4294967295 = -1 := by unfold wrap32; omega
  go_enter Try.func28, Try.ntmps28
  go_wp2_with fail
  refine (knows_fm _).mono ?_
  rintro e w1 ⟨rfl, hb⟩
  go_wp2
  go_ret
  exact ⟨rfl, hb⟩

/-- Lower and upper word together. -/
theorem Bt.halves_u (a b : Nat) : a * b / 4294967296 * 4294967296 + a * b % 4294967296 = a * b := by omega
theorem Bt.low_mod (a b : Nat) (P : Int) (h : P % 4294967296 = (a : Int) * b % 4294967296) (hb : -9223372036854775808 ≤ P ∧ P ≤ 9223372036854775807) :
    wrap64 ((Bt.upper P * 4294967296 + a * b % 4294967296 : Nat) : Int) = P := by
  have h2 : ((a * b % 4294967296 : Nat) : Int) = P % 4294967296 := by rw [h]; simp
  have h3 := Bt.upper_cast P
  have h4 : ((Bt.upper P * 4294967296 + a * b % 4294967296 : Nat) : Int) = Bt.upper P * 4294967296 + ((a * b % 4294967296 : Nat) : Int) := by simp
  rw [h4, h2, h3]
  unfold wrap64
  omega
theorem Bt.sgn_mod (a : Nat) : ∃ k : Int, Bt.sgn a = (a : Int) + 4294967296 * k := by
  unfold Bt.sgn; split
  · exact ⟨0, by omega⟩
  · exact ⟨-1, by omega⟩
theorem Bt.ss_mod (a b : Nat) : Bt.sgn a * Bt.sgn b % 4294967296 = (a : Int) * b % 4294967296 := by
  obtain ⟨k, hk⟩ := Bt.sgn_mod a
  obtain ⟨l, hl⟩ := Bt.sgn_mod b
  rw [hk, hl, Int.mul_emod, Int.add_mul_emod_self_left, Int.add_mul_emod_self_left, ← Int.mul_emod]
theorem Bt.su_mod (a b : Nat) : Bt.sgn a * (b : Int) % 4294967296 = (a : Int) * b % 4294967296 := by
  obtain ⟨k, hk⟩ := Bt.sgn_mod a
  rw [hk, Int.mul_emod, Int.add_mul_emod_self_left, ← Int.mul_emod]

theorem double_int (a b : Nat) (w : World) (ha : a < 4294967296) (hb : b < 4294967296) : Calls Try.prog 29 #[.int .u32 a, .int .u32 b] w fun e w' => e = .returned (.int .u64 ((b : Int) * 4294967296 + a)) ∧ w = w' := by
  have := double_any a b w ha hb
  rw [Int.natCast_add, Int.natCast_mul] at this
  exact this

set_option maxHeartbeats 400000 in
theorem walk_bitsHalves (A B : Int) (w : World) (hA : 0 ≤ A ∧ A ≤ 4294967295) (hB : 0 ≤ B ∧ B ≤ 4294967295) :
    Calls Try.prog 5 #[.int .u32 A, .int .u32 B] w fun e w' => e = .returned (.bool true) ∧ Below w.heap.size w w' := by
  obtain ⟨a, rfl⟩ := Int.eq_ofNat_of_zero_le hA.1
  obtain ⟨b, rfl⟩ := Int.eq_ofNat_of_zero_le hB.1
  have ha : a < 4294967296 := by omega
  have hb : b < 4294967296 := by omega
  clear hA hB
  have hsa := Bt.sgn_bd ha
  have hsb := Bt.sgn_bd hb
  have hP := Bt.prod_bd (A := 2147483648) (B := 2147483648) (x := Bt.sgn a) (y := Bt.sgn b) (by omega) (by omega) (by omega) (by omega)
  have hQ := Bt.prod_bd (A := 2147483648) (B := 4294967295) (x := Bt.sgn a) (y := (b : Int)) (by omega) (by omega) (by omega) (by omega)
  have k2 := Bt.low_mod a b (Bt.sgn a * Bt.sgn b) (Bt.ss_mod a b) (by omega)
  have k3 := Bt.low_mod a b (Bt.sgn a * b) (Bt.su_mod a b) (by omega)
  have k1 := Bt.halves_u a b
  have hm := Bt.mul_lt ha hb
  have hlo : (a : Int) * b % 4294967296 = ((a * b % 4294967296 : Nat) : Int) := by simp
  have u1 := Bt.upper_lt (Bt.sgn a * Bt.sgn b)
  have u2 := Bt.upper_lt (Bt.sgn a * b)
  have hw1 : wrap64 (Bt.sgn a * Bt.sgn b) = Bt.sgn a * Bt.sgn b := IntWalk.wrap64_in _ (by omega)
  have hw2 : wrap64 (Bt.sgn a * b) = Bt.sgn a * b := IntWalk.wrap64_in _ (by omega)
  have c0 := Lib.hid (fun w => signed_any a w ha)
  have c0' := Lib.hid (fun w => signed_any b w hb)
  have c1 := Lib.hid (fun w => mulhu_any a b w ha hb)
  have c2 := Lib.hid (fun w => mulh_any a b w ha hb)
  have c3 := Lib.hid (fun w => mulhsu_any a b w ha hb)
  have hu : IntKind.u64.wrap ((a : Int) * b) = ((a * b / 4294967296 : Nat) : Int) * 4294967296 + ((a * b % 4294967296 : Nat) : Int) := by
    rw [IntKind.wrap_u64, ← Int.natCast_mul]; omega
  have b1 : a * b / 4294967296 < 4294967296 := by omega
  have b0 : a * b % 4294967296 < 4294967296 := by omega
  rw [Int.natCast_add, Int.natCast_mul] at k2 k3
  clear k1 hm hP hQ
  generalize hH1 : a * b / 4294967296 = H1 at *
  generalize hL : a * b % 4294967296 = L at *
  generalize hP : Bt.sgn a * Bt.sgn b = P at *
  generalize hQ : Bt.sgn a * (b : Int) = Q at *
  generalize Bt.upper P = H2 at *
  generalize Bt.upper Q = H3 at *
  generalize Bt.sgn a = sa at *
  generalize Bt.sgn b = sb at *
  have HP := Lib.hid hP; have HQ := Lib.hid hQ
  have m1 : wrap64 (sa * sb) = P := by rw [hP]; exact hw1
  have m2 : wrap64 (sa * (b : Int)) = Q := by rw [hQ]; exact hw2
  have k2' : wrap64 ((H2 : Int) * 4294967296 + (L : Int)) = P := k2
  have k3' : wrap64 ((H3 : Int) * 4294967296 + (L : Int)) = Q := k3
  clear hH1 hL hP hQ hw1 hw2 k2 k3 hsa hsb
  go_enter Try.func5, Try.ntmps5
  go_wp2_with (first | (go_at_call 30; refine (c1.out _).mono ?_; rintro e w' ⟨rfl, rfl⟩) | (go_at_call 31; refine (c2.out _).mono ?_; rintro e w' ⟨rfl, rfl⟩) | (go_at_call 33; refine (c3.out _).mono ?_; rintro e w' ⟨rfl, rfl⟩) | (go_at_call 29; refine (double_int _ _ _ (by assumption) (by assumption)).mono ?_; rintro e w' ⟨rfl, rfl⟩) | (go_at_call 32; first | ((with_reducible refine (c0.out _).mono ?_); rintro e w' ⟨rfl, rfl⟩) | ((with_reducible refine (c0'.out _).mono ?_); rintro e w' ⟨rfl, rfl⟩)) | (go_at_call 28; refine (knows_any _).mono ?_; rintro e w1 ⟨rfl, hb1⟩))
  go_ret
  exact ⟨rfl, hb1⟩

end Go.Proofs.Ytijekhdndegdaaa
