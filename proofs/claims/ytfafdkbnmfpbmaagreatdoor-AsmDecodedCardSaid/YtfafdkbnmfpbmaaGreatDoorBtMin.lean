/- Words: what the instructions ask of bits. -/
import Derived.Test.YtfafdkbnmfpbmaaGreatDoorRows
import Derived.WalkKit
import Derived.WalkLawsBesides
import Derived.WalkSpells
import Derived.StillTailTactics
import Derived.Lib.Hide
import Derived.Below
namespace Go.Proofs.YtfafdkbnmfpbmaaGreatDoor
open Go.RowKit
set_option linter.unusedVariables false
set_option linter.unusedSimpArgs false

theorem ret_bool {a b : Bool} (h : a = b) : Ending.returned (.bool a) = .returned (.bool b) := by rw [h]
theorem ret_int {k : IntKind} {a b : Int} (h : a = b) : Ending.returned (.int k a) = .returned (.int k b) := by rw [h]
theorem Below.one {w : World} : Below w.heap.size w ({ w with drawn := w.drawn + 1 } : World) := ⟨rfl, rfl, rfl, Nat.le_refl _, fun _ _ => rfl⟩
/-- A word's number. -/
def Bt.sgn (a : Nat) : Int := if a < 2147483648 then a else (a : Int) - 4294967296
theorem Bt.sgn_bd {a : Nat} (ha : a < 4294967296) : -2147483648 ≤ Bt.sgn a ∧ Bt.sgn a ≤ 2147483647 := by unfold Bt.sgn; split <;> omega
theorem Bt.wrap32_eq {a : Nat} (ha : a < 4294967296) : wrap32 (a : Int) = Bt.sgn a := by unfold wrap32 Bt.sgn; split <;> omega
theorem Bt.wrap64_32 (x : Int) : wrap64 (wrap32 x) = wrap32 x := by unfold wrap64 wrap32; omega
/-- The lowest k bits, signed. -/
def Bt.sext (a k : Nat) : Nat := if a / 2 ^ (k - 1) % 2 = 1 then a % 2 ^ k + (4294967296 - 2 ^ k) else a % 2 ^ k
theorem Bt.upto32 {p : Nat → Prop} (h : ∀ k : Fin 33, 1 ≤ k.val → p k.val) : ∀ k, 1 ≤ k → k ≤ 32 → p k := fun k h1 h2 => h ⟨k, by omega⟩ h1
theorem Bt.cases32 {k : Nat} (h1 : 1 ≤ k) (h2 : k ≤ 32) : k = 1 ∨ k = 2 ∨ k = 3 ∨ k = 4 ∨ k = 5 ∨ k = 6 ∨ k = 7 ∨ k = 8 ∨ k = 9 ∨ k = 10 ∨ k = 11 ∨ k = 12 ∨ k = 13 ∨ k = 14 ∨ k = 15 ∨ k = 16 ∨ k = 17 ∨ k = 18 ∨ k = 19 ∨ k = 20 ∨ k = 21 ∨ k = 22 ∨ k = 23 ∨ k = 24 ∨ k = 25 ∨ k = 26 ∨ k = 27 ∨ k = 28 ∨ k = 29 ∨ k = 30 ∨ k = 31 ∨ k = 32 := by omega
theorem Bt.sext_eq (a k : Nat) (ha : a < 4294967296) (h1 : 1 ≤ k) (h2 : k ≤ 32) : wrap32 ((a : Int) * 2 ^ (32 - k) % 4294967296) / 2 ^ (32 - k) % 4294967296 = (Bt.sext a k : Int) := by
  rcases Bt.cases32 h1 h2 with rfl | rfl | rfl | rfl | rfl | rfl | rfl | rfl | rfl | rfl | rfl | rfl | rfl | rfl | rfl | rfl | rfl | rfl | rfl | rfl | rfl | rfl | rfl | rfl | rfl | rfl | rfl | rfl | rfl | rfl | rfl | rfl <;>
    (unfold Bt.sext wrap32; simp only [Nat.reduceSub, Nat.reducePow, Int.reducePow, Nat.sub_self, Nat.pow_zero, Int.pow_zero]; split <;> omega)
theorem Bt.sext_lt (a k : Nat) (ha : a < 4294967296) (h1 : 1 ≤ k) (h2 : k ≤ 32) : Bt.sext a k < 4294967296 := by
  have h := Bt.sext_eq a k ha h1 h2
  omega
theorem Bt.sext_low (a k : Nat) (ha : a < 4294967296) (h1 : 1 ≤ k) (h2 : k ≤ 32) : Bt.sext a k % 2 ^ k = a % 2 ^ k := by
  rcases Bt.cases32 h1 h2 with rfl | rfl | rfl | rfl | rfl | rfl | rfl | rfl | rfl | rfl | rfl | rfl | rfl | rfl | rfl | rfl | rfl | rfl | rfl | rfl | rfl | rfl | rfl | rfl | rfl | rfl | rfl | rfl | rfl | rfl | rfl | rfl <;>
    (unfold Bt.sext; simp only [Nat.reduceSub, Nat.reducePow]; split <;> omega)
theorem Bt.field_eq (x k : Nat) (hx : x < 4294967296) (h2 : k ≤ 32) : bits .and .u32 (x : Int) ((2 ^ k - 1) % 4294967296) = ((x % 2 ^ k : Nat) : Int) := by
  have hp : 2 ^ k ≤ 2 ^ 32 := Nat.pow_le_pow_right (by omega) h2
  have hp0 : 0 < 2 ^ k := Nat.two_pow_pos k
  have e : ((2 : Int) ^ k - 1) % 4294967296 = ((2 ^ k - 1 : Nat) : Int) := by
    rw [Int.natCast_sub (by omega)]
    simp only [Int.natCast_pow, Int.cast_ofNat_Int]
    have : (2 : Int) ^ k = ((2 ^ k : Nat) : Int) := by simp
    omega
  rw [e]
  have h : (BitVec.ofInt 32 (x : Int)).toNat = x := by rw [BitVec.ofInt_natCast, BitVec.toNat_ofNat]; exact Nat.mod_eq_of_lt (by omega)
  have h' : (BitVec.ofInt 32 ((2 ^ k - 1 : Nat) : Int)).toNat = 2 ^ k - 1 := by rw [BitVec.ofInt_natCast, BitVec.toNat_ofNat]; exact Nat.mod_eq_of_lt (by omega)
  show IntKind.u32.wrap ((BitVec.ofInt 32 (x : Int) &&& BitVec.ofInt 32 ((2 ^ k - 1 : Nat) : Int)).toNat : Int) = _
  rw [BitVec.toNat_and, h, h', Nat.and_two_pow_sub_one_eq_mod, IntKind.wrap_u32]
  have := Nat.mod_le x (2 ^ k)
  omega
theorem field_nat (a : Nat) (k n : Int) (w : World) (ha : a < 4294967296) (h0 : 0 ≤ k) (h1 : 1 ≤ n) (h2 : k ≤ 32) (h3 : n ≤ 32 - k) : Calls Tryz.prog 245 #[.int .u32 a, .int .i64 k, .int .i64 n] w fun e w' =>
    e = .returned (.int .u32 ((a / 2 ^ k.toNat % 2 ^ n.toNat : Nat) : Int)) ∧ w = w' := by
  go_enter Tryz.func245, Tryz.ntmps245
  go_wp2
  go_ret
  refine ⟨ret_int ?_, rfl⟩
  have := Bt.field_eq (a / 2 ^ k.toNat) n.toNat (Nat.lt_of_le_of_lt (Nat.div_le_self _ _) ha) (by omega)
  rw [← this]
  simp
def Bt.fieldV (a : Nat) (k n : Int) : Int := if 0 ≤ k ∧ 1 ≤ n ∧ k ≤ 32 ∧ n ≤ 32 - k then ((a / 2 ^ k.toNat % 2 ^ n.toNat : Nat) : Int) else 0
theorem field_v (a : Nat) (k n : Int) (w : World) (ha : a < 4294967296) : Calls Tryz.prog 245 #[.int .u32 a, .int .i64 k, .int .i64 n] w fun e w' => e = .returned (.int .u32 (Bt.fieldV a k n)) ∧ w = w' := by
  unfold Bt.fieldV
  split
  · rename_i h; exact field_nat a k n w ha h.1 h.2.1 h.2.2.1 h.2.2.2
  · rename_i h
    by_cases c1 : k < 0
    · clear h
      go_enter Tryz.func245, Tryz.ntmps245
      go_wp2
      go_ret
      exact ⟨rfl, rfl⟩
    by_cases c2 : n < 1
    · clear h
      go_enter Tryz.func245, Tryz.ntmps245
      go_wp2
      go_ret
      exact ⟨rfl, rfl⟩
    by_cases c3 : 32 < k
    · clear h
      go_enter Tryz.func245, Tryz.ntmps245
      go_wp2
      go_ret
      exact ⟨rfl, rfl⟩
    have c4 : 32 - k < n := by omega
    clear h
    go_enter Tryz.func245, Tryz.ntmps245
    go_wp2
    go_ret
    exact ⟨rfl, rfl⟩
theorem still_of {P : Program} {f : FuncId} {args : Array Value} {w : World} {v : Value} (h : Calls P f args w fun e w' => e = .returned v ∧ w = w') : Calls P f args w fun e w' => e = .returned v ∧ w' = w :=
  h.mono fun _ _ ⟨he, hw⟩ => ⟨he, hw.symm⟩
end Go.Proofs.YtfafdkbnmfpbmaaGreatDoor
