/- Walks of the functions of bits and of the document's that need no loop: each by a plain function. -/
import Derived.Test.YtijekhdndegdaaaRows
import Derived.WalkKit
import Derived.WalkLawsBesides
import Derived.WalkSpells
import Derived.StillTailTactics
import Derived.Lib.Hide
import Derived.Below
namespace Go.Proofs.Ytijekhdndegdaaa
open Go.RowKit
set_option linter.unusedVariables false
set_option linter.unusedSimpArgs false

theorem ret_bool {a b : Bool} (h : a = b) : Ending.returned (.bool a) = .returned (.bool b) := by rw [h]
theorem ret_int {k : IntKind} {a b : Int} (h : a = b) : Ending.returned (.int k a) = .returned (.int k b) := by rw [h]
theorem Below.one {w : World} : Below w.heap.size w ({ w with drawn := w.drawn + 1 } : World) := ⟨rfl, rfl, rfl, Nat.le_refl _, fun _ _ => rfl⟩

/-- A word's number. -/
def Bt.sgn (a : Nat) : Int := if a < 2147483648 then a else (a : Int) - 4294967296
theorem Bt.sgn_bd {a : Nat} (ha : a < 4294967296) : -2147483648 ≤ Bt.sgn a ∧ Bt.sgn a ≤ 2147483647 := by unfold Bt.sgn; split <;> omega
theorem Bt.wrap32_eq {a : Nat} (ha : a < 4294967296) : wrap32 (a : Int) = Bt.sgn a := by unfold wrap32 Bt.sgn; split <;> omega
theorem Bt.wrap64_32 (x : Int) : wrap64 (wrap32 x) = wrap32 x := by unfold wrap64 wrap32; omega

theorem signed_any (a : Nat) (w : World) (ha : a < 4294967296) : Calls Try.prog 32 #[.int .u32 a] w fun e w' => e = .returned (.int .i64 (Bt.sgn a)) ∧ w = w' := by
  go_enter Try.func32, Try.ntmps32
  go_wp2
  go_ret
  exact ⟨ret_int (by rw [Bt.wrap64_32, Bt.wrap32_eq ha]), rfl⟩

theorem Bt.or_shift (b a : Nat) (ha : a < 4294967296) (hb : b < 4294967296) : bits .or .u64 ((b : Int) * 4294967296) (a : Int) = ((b * 4294967296 + a : Nat) : Int) := by
  have h := bits_or_u64_nat (b * 4294967296) a (by omega) (by omega)
  have e : b * 4294967296 ||| a = b * 4294967296 + a := by
    have := Nat.two_pow_add_eq_or_of_lt (i := 32) (show a < 2 ^ 32 from ha) b
    rw [Nat.mul_comm b]; exact this.symm
  rw [e] at h
  rw [← h]; simp
theorem double_any (a b : Nat) (w : World) (ha : a < 4294967296) (hb : b < 4294967296) : Calls Try.prog 29 #[.int .u32 a, .int .u32 b] w fun e w' => e = .returned (.int .u64 ((b * 4294967296 + a : Nat) : Int)) ∧ w = w' := by
  go_enter Try.func29, Try.ntmps29
  go_wp2
  go_ret
  exact ⟨ret_int (Bt.or_shift b a ha hb), rfl⟩

theorem Bt.mul_lt {a b : Nat} (ha : a < 4294967296) (hb : b < 4294967296) : a * b < 18446744073709551616 := by
  have h1 : a * b ≤ 4294967295 * b := Nat.mul_le_mul_right b (by omega)
  omega
theorem mulhu_any (a b : Nat) (w : World) (ha : a < 4294967296) (hb : b < 4294967296) : Calls Try.prog 30 #[.int .u32 a, .int .u32 b] w fun e w' => e = .returned (.int .u32 ((a * b / 4294967296 : Nat) : Int)) ∧ w = w' := by
  go_enter Try.func30, Try.ntmps30
  go_wp2
  go_ret
  refine ⟨ret_int ?_, rfl⟩
  have h := Bt.mul_lt ha hb
  rw [IntKind.wrap_u64, ← Int.natCast_mul]
  omega
/-- The upper word of a product of whatever numbers. -/
def Bt.upper (x : Int) : Nat := (x / 4294967296 % 4294967296).toNat
theorem Bt.upper_lt (x : Int) : Bt.upper x < 4294967296 := by unfold Bt.upper; omega
theorem Bt.upper_cast (x : Int) : (Bt.upper x : Int) = x / 4294967296 % 4294967296 := by unfold Bt.upper; omega
theorem Bt.prod_bd {x y : Int} {A B : Int} (hx : -A ≤ x ∧ x ≤ A) (hy : -B ≤ y ∧ y ≤ B) (hA : 0 ≤ A) (hB : 0 ≤ B) : -(A * B) ≤ x * y ∧ x * y ≤ A * B := by
  constructor
  · rcases Int.le_total 0 x with h | h
    · have h1 : x * -B ≤ x * y := Int.mul_le_mul_of_nonneg_left hy.1 h
      have h2 : x * B ≤ A * B := Int.mul_le_mul_of_nonneg_right hx.2 hB
      rw [Int.mul_neg] at h1; omega
    · have h1 : -x * y ≤ -x * B := Int.mul_le_mul_of_nonneg_left hy.2 (by omega)
      have h2 : -x * B ≤ A * B := Int.mul_le_mul_of_nonneg_right (by omega) hB
      rw [Int.neg_mul] at h1; omega
  · rcases Int.le_total 0 x with h | h
    · have h1 : x * y ≤ x * B := Int.mul_le_mul_of_nonneg_left hy.2 h
      have h2 : x * B ≤ A * B := Int.mul_le_mul_of_nonneg_right hx.2 hB
      omega
    · have h1 : -x * -B ≤ -x * y := Int.mul_le_mul_of_nonneg_left hy.1 (by omega)
      have h2 : -x * B ≤ A * B := Int.mul_le_mul_of_nonneg_right (by omega) hB
      rw [Int.neg_mul, Int.neg_mul, Int.mul_neg] at h1
      rw [Int.neg_mul] at h2; omega
theorem mulh_any (a b : Nat) (w : World) (ha : a < 4294967296) (hb : b < 4294967296) : Calls Try.prog 31 #[.int .u32 a, .int .u32 b] w fun e w' => e = .returned (.int .u32 (Bt.upper (Bt.sgn a * Bt.sgn b) : Int)) ∧ w = w' := by
  go_enter Try.func31, Try.ntmps31
  go_wp2
  go_ret
  refine ⟨ret_int ?_, rfl⟩
  have h1 := Bt.sgn_bd ha
  have h2 := Bt.sgn_bd hb
  have h3 := Bt.prod_bd (A := 2147483648) (B := 2147483648) (x := Bt.sgn a) (y := Bt.sgn b) (by omega) (by omega) (by omega) (by omega)
  rw [Bt.wrap64_32, Bt.wrap64_32, Bt.wrap32_eq ha, Bt.wrap32_eq hb, IntWalk.wrap64_in _ (by omega), Bt.upper_cast]
theorem mulhsu_any (a b : Nat) (w : World) (ha : a < 4294967296) (hb : b < 4294967296) : Calls Try.prog 33 #[.int .u32 a, .int .u32 b] w fun e w' => e = .returned (.int .u32 (Bt.upper (Bt.sgn a * b) : Int)) ∧ w = w' := by
  go_enter Try.func33, Try.ntmps33
  go_wp2
  go_ret
  refine ⟨ret_int ?_, rfl⟩
  have h1 := Bt.sgn_bd ha
  have h3 := Bt.prod_bd (A := 2147483648) (B := 4294967295) (x := Bt.sgn a) (y := (b : Int)) (by omega) (by omega) (by omega) (by omega)
  rw [Bt.wrap64_32, Bt.wrap32_eq ha, IntWalk.wrap64_in _ (by omega), Bt.upper_cast]

theorem less_any (a b : Nat) (w : World) (ha : a < 4294967296) (hb : b < 4294967296) : Calls Try.prog 27 #[.int .u32 a, .int .u32 b] w fun e w' => e = .returned (.bool (decide (Bt.sgn a < Bt.sgn b))) ∧ w = w' := by
  go_enter Try.func27, Try.ntmps27
  go_wp2
  go_ret
  exact ⟨ret_bool (by rw [Bt.wrap32_eq ha, Bt.wrap32_eq hb]), rfl⟩

/-- Unsigned division of a double: quotient, rest, right. -/
def Bt.umq (v d : Nat) : Nat := if v / 4294967296 < d then v / d else 0
def Bt.umr (v d : Nat) : Nat := if v / 4294967296 < d then v % d else 0
theorem Bt.umq_lt {v d : Nat} : Bt.umq v d < 4294967296 := by
  unfold Bt.umq
  split
  · rename_i h
    rw [Nat.div_lt_iff_lt_mul (by omega)]
    have h1 : v < (v / 4294967296 + 1) * 4294967296 := by omega
    have h2 : (v / 4294967296 + 1) * 4294967296 ≤ d * 4294967296 := Nat.mul_le_mul_right _ h
    have h3 : 4294967296 * d = d * 4294967296 := Nat.mul_comm _ _
    omega
  · omega
theorem Bt.umr_lt {v d : Nat} (hd : d < 4294967296) : Bt.umr v d < 4294967296 := by
  unfold Bt.umr
  split
  · rename_i h
    have h0 : 0 < d := Nat.lt_of_le_of_lt (Nat.zero_le _) h
    exact Nat.lt_trans (Nat.mod_lt v h0) hd
  · exact Nat.zero_lt_succ _
theorem ummod_no (v d : Nat) (w : World) (hv : v < 18446744073709551616) (hd : d < 4294967296) (h : ¬ v / 4294967296 < d) :
    Calls Try.prog 34 #[.int .u64 v, .int .u32 d] w fun e w' => e = .returned (.tuple #[.int .u32 0, .int .u32 0, .bool false]) ∧ Below w.heap.size w w' := by
  have h1 : (d : Int) ≤ (v : Int) / 4294967296 := by omega
  go_enter Try.func34, Try.ntmps34
  go_wp2
  go_ret3
  exact ⟨rfl, Below.refl _ _⟩
theorem ummod_yes (v d : Nat) (w : World) (hv : v < 18446744073709551616) (hd : d < 4294967296) (h : v / 4294967296 < d) :
    Calls Try.prog 34 #[.int .u64 v, .int .u32 d] w fun e w' => e = .returned (.tuple #[.int .u32 ((v / d : Nat) : Int), .int .u32 ((v % d : Nat) : Int), .bool true]) ∧ Below w.heap.size w w' := by
  have h1 : (v : Int) / 4294967296 < (d : Int) := by omega
  have h2 : 0 < d := by omega
  have h3 : (d : Int) ≠ 0 := by omega
  have hq := Bt.umq_lt (v := v) (d := d)
  rw [Bt.umq, if_pos h] at hq
  have hr := Nat.mod_lt v h2
  have hor := Bt.or_shift (v / 4294967296) (v % 4294967296) (by omega) (by omega)
  rw [show v / 4294967296 * 4294967296 + v % 4294967296 = v by omega, Int.natCast_ediv, Int.natCast_emod] at hor
  have hor' : bits .or .u64 ((v : Int) / 4294967296 * 4294967296) ((v : Int) % 4294967296) = (v : Int) := hor
  clear hor
  go_enter Try.func34, Try.ntmps34
  go_wp2
  clear hor'
  refine wp_region_still_lit (by kernel_rfl) (by kernel_rfl) ?_
  repeat ((with_reducible refine wpStill_step (fun K hK => ?_)); go_simp; (try go_bits); (with_reducible refine hK _ ?_); clear hK K)
  refine wpStill_nil ?_
  have hb := Below.one (w := w)
  generalize ({ w with drawn := w.drawn + 1 } : World) = w1 at hb ⊢
  have HX := Lib.hid (show IntKind.u64.wrap ((v : Int) / (d : Int)) % 4294967296 = ((v / d : Nat) : Int) by
    rw [← Int.natCast_ediv, IntKind.wrap_u64]; generalize v / d = q at *; omega)
  go_wp2
  go_ret3
  refine ⟨?_, hb⟩
  show Ending.returned (.tuple #[.int .u32 (IntKind.u64.wrap ((v : Int) / (d : Int)) % 4294967296), .int .u32 ((v : Int) % (d : Int)), .bool true]) = _
  rw [HX.out, Int.natCast_emod]

theorem size_low (v : Nat) (w : World) (h : v < 9223372036854775808) : Calls Try.prog 76 #[.int .u64 v] w fun e w' => e = .returned (.tuple #[.int .u64 v, .bool false]) ∧ w = w' := by
  have h1 : ¬ wrap64 (v : Int) < 0 := by unfold wrap64; omega
  go_enter Try.func76, Try.ntmps76
  go_wp2
  go_ret2
  exact ⟨by simp, rfl⟩
theorem size_high (v : Nat) (w : World) (h : 9223372036854775808 ≤ v) (h2 : v < 18446744073709551616) : Calls Try.prog 76 #[.int .u64 v] w fun e w' => e = .returned (.tuple #[.int .u64 ((18446744073709551616 - v : Nat) : Int), .bool true]) ∧ w = w' := by
  have h1 : wrap64 (v : Int) < 0 := by unfold wrap64; omega
  have HN := Lib.hid (show IntKind.u64.wrap (-(v : Int)) = ((18446744073709551616 - v : Nat) : Int) by rw [IntKind.wrap_u64]; omega)
  go_enter Try.func76, Try.ntmps76
  go_wp2
  go_ret2
  refine ⟨?_, rfl⟩
  rw [← HN.out]
  rfl

/-- What the walk is told of 'size': a number's size and whether it is below nought. -/
def SizeAt (x : Int) (n : Nat) (low : Bool) : Prop := ∀ w, Calls Try.prog 76 #[.int .u64 x] w fun e w' => e = .returned (.tuple #[.int .u64 n, .bool low]) ∧ w = w'

/-- A double's number. -/
def Bt.sgn64 (v : Nat) : Int := if v < 9223372036854775808 then v else (v : Int) - 18446744073709551616
/-- The double of a signed word. -/
def Bt.wide (d : Nat) : Int := IntKind.u64.wrap (wrap64 (wrap32 (d : Int)))
theorem sizeAt_v (v : Nat) (hv : v < 18446744073709551616) : ∃ n low, SizeAt v n low ∧ n ≤ 9223372036854775808 ∧ Bt.sgn64 v = (if low then -(n : Int) else n) ∧ (low = true → 0 < n) := by
  by_cases h : v < 9223372036854775808
  · exact ⟨v, false, fun w => size_low v w h, by omega, by simp [Bt.sgn64, h], by simp⟩
  · exact ⟨18446744073709551616 - v, true, fun w => size_high v w (by omega) hv, by omega, by simp [Bt.sgn64, h]; omega, fun _ => by omega⟩
theorem sizeAt_d (d : Nat) (hd : d < 4294967296) : ∃ m below, SizeAt (Bt.wide d) m below ∧ m ≤ 2147483648 ∧ Bt.sgn d = (if below then -(m : Int) else m) ∧ (below = true → 0 < m) := by
  by_cases h : d < 2147483648
  · have e : Bt.wide d = (d : Int) := by
      unfold Bt.wide; rw [Bt.wrap64_32, Bt.wrap32_eq hd, Bt.sgn, if_pos h, IntKind.wrap_u64]; omega
    exact ⟨d, false, fun w => by rw [e]; exact size_low d w (by omega), by omega, by simp [Bt.sgn, h], by simp⟩
  · have e : Bt.wide d = ((d + 18446744069414584320 : Nat) : Int) := by
      unfold Bt.wide; rw [Bt.wrap64_32, Bt.wrap32_eq hd, Bt.sgn, if_neg h, IntKind.wrap_u64]; omega
    refine ⟨4294967296 - d, true, fun w => ?_, by omega, by simp [Bt.sgn, h]; omega, fun _ => by omega⟩
    rw [e]
    have := size_high (d + 18446744069414584320) w (by omega) (by omega)
    rw [show 18446744073709551616 - (d + 18446744069414584320) = 4294967296 - d by omega] at this
    exact this

theorem ret3_eq {q q' r r' : Int} {b : Bool} (h1 : q = q') (h2 : r = r') : Ending.returned (.tuple #[.int .u32 q, .int .u32 r, .bool b]) = .returned (.tuple #[.int .u32 q', .int .u32 r', .bool b]) := by rw [h1, h2]
/-- What SmRem answers, of sizes and signs. -/
def Bt.smOut (n m : Nat) (low below : Bool) : Int × Int × Bool :=
  if n / 4294967296 < m ∧ (n / m ≤ 2147483647 ∨ low ≠ below ∧ n / m ≤ 2147483648) then
    ((if low ≠ below then (-(n / m : Nat) : Int) else (n / m : Nat)) % 4294967296, (if low then (-(n % m : Nat) : Int) else (n % m : Nat)) % 4294967296, true)
  else (0, 0, false)
set_option maxHeartbeats 1000000 in
theorem smrem_core (v d n m : Nat) (low below : Bool) (w : World) (hn : SizeAt v n low) (hm : SizeAt (Bt.wide d) m below) (hn1 : n ≤ 9223372036854775808) (hm1 : m ≤ 2147483648) (hd : d < 4294967296) :
    Calls Try.prog 36 #[.int .u64 v, .int .u32 d] w fun e w' => e = .returned (.tuple #[.int .u32 (Bt.smOut n m low below).1, .int .u32 (Bt.smOut n m low below).2.1, .bool (Bt.smOut n m low below).2.2]) ∧ Below w.heap.size w w' := by
  by_cases hok : n / 4294967296 < m
  · have hq := Bt.umq_lt (v := n) (d := m)
    rw [Bt.umq, if_pos hok] at hq
    have hr := Nat.mod_lt n (show 0 < m by omega)
    have HC := fun w => ummod_yes n m w (by omega) (by omega) hok
    have HF := Lib.hid (show Bt.smOut n m low below = if n / m ≤ 2147483647 ∨ low ≠ below ∧ n / m ≤ 2147483648 then
      ((if low ≠ below then (-(n / m : Nat) : Int) else (n / m : Nat)) % 4294967296, (if low then (-(n % m : Nat) : Int) else (n % m : Nat)) % 4294967296, true)
      else (0, 0, false) by simp only [Bt.smOut, hok, true_and])
    generalize n / m = q at *
    generalize n % m = r at *
    have HC := Lib.hid HC
    by_cases hlim : q ≤ 2147483647 ∨ low ≠ below ∧ q ≤ 2147483648
    · rw [if_pos hlim] at HF
      cases low <;> cases below <;> simp only [ne_eq, reduceCtorEq, not_true_eq_false, not_false_eq_true, false_and, true_and, or_false, ite_true, ite_false, Bool.false_eq_true, ↓reduceIte] at hlim HF
      all_goals
        go_enter Try.func36, Try.ntmps36
        go_wp2_with fail
        refine (hn _).mono ?_
        rintro e w' ⟨rfl, rfl⟩
        go_wp2_with fail
        refine (hm _).mono ?_
        rintro e w' ⟨rfl, rfl⟩
        go_wp2_with fail
        refine (HC.out _).mono ?_
        rintro e w1 ⟨rfl, hb⟩
        go_wp2
        go_ret3
        refine ⟨?_, hb⟩
        rw [HF.out]
        exact ret3_eq (by first | (dsimp only; done) | (dsimp only; omega) | (simp only [IntKind.wrap_u64]; omega)) (by first | (dsimp only; done) | (dsimp only; omega) | (simp only [IntKind.wrap_u64]; omega))
    · rw [if_neg hlim] at HF
      cases low <;> cases below <;> simp only [ne_eq, reduceCtorEq, not_true_eq_false, not_false_eq_true, false_and, true_and, or_false, ite_true, ite_false, Bool.false_eq_true, ↓reduceIte, not_or, Nat.not_le] at hlim HF
      all_goals
        go_enter Try.func36, Try.ntmps36
        go_wp2_with fail
        refine (hn _).mono ?_
        rintro e w' ⟨rfl, rfl⟩
        go_wp2_with fail
        refine (hm _).mono ?_
        rintro e w' ⟨rfl, rfl⟩
        go_wp2_with fail
        refine (HC.out _).mono ?_
        rintro e w1 ⟨rfl, hb⟩
        go_wp2
        go_ret3
        refine ⟨?_, hb⟩
        rw [HF.out]
        rfl
  · have HF := Lib.hid (show Bt.smOut n m low below = (0, 0, false) by rw [Bt.smOut, if_neg (by omega)])
    cases low <;> cases below <;>
    (go_enter Try.func36, Try.ntmps36
     go_wp2_with fail
     refine (hn _).mono ?_
     rintro e w' ⟨rfl, rfl⟩
     go_wp2_with fail
     refine (hm _).mono ?_
     rintro e w' ⟨rfl, rfl⟩
     go_wp2_with fail
     refine (ummod_no n m _ (by omega) (by omega) hok).mono ?_
     rintro e w1 ⟨rfl, hb⟩
     go_wp2
     go_ret3
     refine ⟨?_, hb⟩
     rw [HF.out]
     rfl)

end Go.Proofs.Ytijekhdndegdaaa
