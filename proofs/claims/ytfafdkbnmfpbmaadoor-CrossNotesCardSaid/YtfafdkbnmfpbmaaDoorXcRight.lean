/- names.Right, where the rest of the package names is not at hand. -/
import Derived.Test.YtfafdkbnmfpbmaaDoorNmPlain
import Derived.Test.YtfafdkbnmfpbmaaDoorRows
import Derived.WalkKit
import Derived.WalkLawsBesides
import Derived.WalkSpells
import Derived.Lib.Hide
import Derived.Lib.ConvBytes
namespace Go.Proofs.YtfafdkbnmfpbmaaDoor
open Go.RowKit
set_option linter.unusedVariables false
set_option linter.unusedSimpArgs false

theorem xret_bool {a b : Bool} (h : a = b) : Ending.returned (.bool a) = .returned (.bool b) := by rw [h]
set_option maxHeartbeats 400000 in
theorem xright_own (s : ByteArray) (w : World) (hs : s.size ≤ maxLen) :
    Calls Tryd.prog 40 #[.string s] w fun e w' => e = .returned (.bool (Nm.right s.data.toList)) ∧ w = w' := by
  unfold maxLen at hs
  go_enter Tryd.func40, Tryd.ntmps40
  go_wp2
  go_loop [6] (fun i => ∃ k : Nat, k ≤ s.size ∧ i = .int .i64 k ∧ (s.data.toList.take k).all Nm.okc = true) (fun i => s.size - (intOf i).toNat)
  case atStart => exact ⟨0, Nat.zero_le _, rfl, by simp⟩
  case round =>
    obtain ⟨k, hk, rfl, hall⟩ := hrel
    have HA := Lib.hid hall; clear hall
    by_cases hlt : k < s.size
    · by_cases h1 : (s[k].toNat : Int) ≤ 32
      · have HF := Lib.hid (Nm.right_no s k hlt (Nm.okc_low h1))
        go_wp2
        go_ret
        exact ⟨xret_bool HF.out.symm, rfl⟩
      · by_cases h2 : 126 < (s[k].toNat : Int)
        · have HF := Lib.hid (Nm.right_no s k hlt (Nm.okc_high h2))
          go_wp2
          go_ret
          exact ⟨xret_bool HF.out.symm, rfl⟩
        · have HN := Lib.hid (Nm.all_step s k hlt HA.out (Nm.okc_ok h1 h2))
          go_wp2
          go_round
          case rel => exact ⟨k + 1, by omega, by go_num, HN.out⟩
          case measure => simp [intOf]; omega
    · have HF := Lib.hid (Nm.right_end s k hlt HA.out)
      go_wp2
      · have h0 : s.toList = [] := by assumption
        go_ret
        exact ⟨xret_bool (by rw [HF.out, ← Nm.toList_nil, h0]; rfl), rfl⟩
      · have h0 : ¬ s.toList = [] := by assumption
        rw [Nm.toList_nil] at h0
        go_ret
        exact ⟨xret_bool (by rw [HF.out, Nm.toList_nil, Nm.isEmpty_of h0]; simp; omega), rfl⟩

set_option maxHeartbeats 400000 in
theorem xright_ref (s : ByteArray) (w : World) (hs : s.size ≤ maxLen) :
    Calls Tryd.prog 22 #[.string s] w fun e w' => e = .returned (.bool (Nm.right s.data.toList)) ∧ w = w' := by
  unfold maxLen at hs
  go_enter Tryd.func22, Tryd.ntmps22
  go_wp2
  go_loop [3] (fun i => ∃ k : Nat, k ≤ s.size ∧ i = .int .i64 k ∧ (s.data.toList.take k).all Nm.okc = true) (fun i => s.size - (intOf i).toNat)
  case atStart => exact ⟨0, Nat.zero_le _, rfl, by simp⟩
  case round =>
    obtain ⟨k, hk, rfl, hall⟩ := hrel
    have HA := Lib.hid hall; clear hall
    by_cases hlt : k < s.size
    · by_cases h1 : (s[k].toNat : Int) ≤ 32
      · have HF := Lib.hid (Nm.right_no s k hlt (Nm.okc_low h1))
        go_wp2
        go_ret
        exact ⟨xret_bool HF.out.symm, rfl⟩
      · by_cases h2 : 127 ≤ (s[k].toNat : Int)
        · have HF := Lib.hid (Nm.right_no s k hlt (Nm.okc_high (by omega)))
          go_wp2
          go_ret
          exact ⟨xret_bool HF.out.symm, rfl⟩
        · have HN := Lib.hid (Nm.all_step s k hlt HA.out (Nm.okc_ok h1 (by omega)))
          go_wp2
          go_round
          case rel => exact ⟨k + 1, by omega, by go_num, HN.out⟩
          case measure => simp [intOf]; omega
    · have HF := Lib.hid (Nm.right_end s k hlt HA.out)
      by_cases h0 : 0 < s.size
      · have h1 := Nm.nonempty_of s h0
        go_wp2
        go_ret
        exact ⟨xret_bool (by rw [HF.out, Nm.isEmpty_of h1]; simp; omega), rfl⟩
      · have h1 := Lib.hid (Nm.empty_of s h0)
        go_wp2
        go_ret
        exact ⟨xret_bool (by rw [HF.out, h1.out]; rfl), rfl⟩

end Go.Proofs.YtfafdkbnmfpbmaaDoor
