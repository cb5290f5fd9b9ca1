/- Words: the sign. -/
import Derived.Test.YtfafdkbnmfpbmaaGreatDoorBtMin
namespace Go.Proofs.YtfafdkbnmfpbmaaGreatDoor
open Go.RowKit
set_option linter.unusedVariables false
set_option linter.unusedSimpArgs false

theorem sext_any (a : Nat) (n : Int) (w : World) (ha : a < 4294967296) (h1 : 1 ≤ n) (h2 : n ≤ 32) : Calls Tryz.prog 132 #[.int .u32 a, .int .i64 n] w fun e w' =>
    e = .returned (.int .u32 (wrap32 ((a : Int) * 2 ^ (32 - n).toNat % 4294967296) / 2 ^ (32 - n).toNat % 4294967296)) ∧ w = w' := by
  go_enter Tryz.func132, Tryz.ntmps132
  go_wp2
  go_ret
  exact ⟨rfl, rfl⟩
theorem sext_nat (a : Nat) (n : Int) (w : World) (ha : a < 4294967296) (h1 : 1 ≤ n) (h2 : n ≤ 32) : Calls Tryz.prog 132 #[.int .u32 a, .int .i64 n] w fun e w' =>
    e = .returned (.int .u32 (Bt.sext a n.toNat : Int)) ∧ w = w' := by
  have := sext_any a n w ha h1 h2
  rw [show (32 - n).toNat = 32 - n.toNat by omega, Bt.sext_eq a n.toNat ha (by omega) (by omega)] at this
  exact this
end Go.Proofs.YtfafdkbnmfpbmaaGreatDoor
