/- Texts joined, what is not reached left out. -/
import Derived.Test.YtpcpaoeajcjoiaaGreatDoorIB
/- Words: the document's field. -/
namespace Go.Proofs.YtpcpaoeajcjoiaaGreatDoor
open Go.RowKit
set_option linter.unusedVariables false
set_option linter.unusedSimpArgs false

theorem Bt.pow_int (k : Nat) : (2 : Int) ^ k = ((2 ^ k : Nat) : Int) := by simp
theorem Bt.and_u64 (x k : Nat) (hx : x < 4294967296) (h2 : k ≤ 32) : bits .and .u64 (x : Int) (IntKind.u64.wrap (IntKind.u64.wrap (2 ^ k) - 1)) = ((x % 2 ^ k : Nat) : Int) := by
  have hp : 2 ^ k ≤ 2 ^ 32 := Nat.pow_le_pow_right (by omega) h2
  have hp0 : 0 < 2 ^ k := Nat.two_pow_pos k
  have e : IntKind.u64.wrap (IntKind.u64.wrap (2 ^ k) - 1) = ((2 ^ k - 1 : Nat) : Int) := by
    rw [Bt.pow_int, IntKind.wrap_u64, IntKind.wrap_u64]; omega
  rw [e, bits_and_u64_nat x _ (by omega) (by omega), Nat.and_two_pow_sub_one_eq_mod]
theorem rfield_in (a : Nat) (k n : Int) (w : World) (ha : a < 4294967296) (h0 : 0 ≤ k) (h1 : 1 ≤ n) (h2 : k ≤ 32) (h3 : n ≤ 32 - k) : Calls Tryz.prog 227 #[.int .u32 a, .int .i64 k, .int .i64 n] w fun e w' =>
    e = .returned (.int .u32 ((a / 2 ^ k.toNat % 2 ^ n.toNat : Nat) : Int)) ∧ w = w' := by
  have hlt : a / 2 ^ k.toNat < 4294967296 := Nat.lt_of_le_of_lt (Nat.div_le_self _ _) ha
  have F1 := Bt.and_u64 (a / 2 ^ k.toNat) n.toNat hlt (by omega)
  have hm : a / 2 ^ k.toNat % 2 ^ n.toNat ≤ a / 2 ^ k.toNat := Nat.mod_le _ _
  have e : ((a / 2 ^ k.toNat : Nat) : Int) = (a : Int) / 2 ^ k.toNat := by simp
  rw [e] at F1
  generalize a / 2 ^ k.toNat % 2 ^ n.toNat = M at *
  have hM : M < 4294967296 := by omega
  clear e hm hlt
  go_enter Tryz.func227, Tryz.ntmps227
  go_wp2
  go_ret
  exact ⟨ret_int (by omega), rfl⟩
theorem rfield_v (a : Nat) (k n : Int) (w : World) (ha : a < 4294967296) : Calls Tryz.prog 227 #[.int .u32 a, .int .i64 k, .int .i64 n] w fun e w' => e = .returned (.int .u32 (Bt.fieldV a k n)) ∧ w = w' := by
  unfold Bt.fieldV
  split
  · rename_i h; exact rfield_in a k n w ha h.1 h.2.1 h.2.2.1 h.2.2.2
  · rename_i h
    by_cases c1 : k < 0
    · clear h
      go_enter Tryz.func227, Tryz.ntmps227
      go_wp2
      go_ret
      exact ⟨rfl, rfl⟩
    by_cases c2 : n < 1
    · clear h
      go_enter Tryz.func227, Tryz.ntmps227
      go_wp2
      go_ret
      exact ⟨rfl, rfl⟩
    by_cases c3 : 32 < k
    · clear h
      go_enter Tryz.func227, Tryz.ntmps227
      go_wp2
      go_ret
      exact ⟨rfl, rfl⟩
    have c4 : 32 - k < n := by omega
    clear h
    go_enter Tryz.func227, Tryz.ntmps227
    go_wp2
    go_ret
    exact ⟨rfl, rfl⟩
end Go.Proofs.YtpcpaoeajcjoiaaGreatDoor
