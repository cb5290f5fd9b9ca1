/- Walks: blank, bare, next. -/
import Derived.Test.YtfafdkbnmfpbmaaGreatDoorL6Plain
import Derived.Test.YtfafdkbnmfpbmaaGreatDoorShelf
import Derived.Test.YtfafdkbnmfpbmaaGreatDoorRows
import Derived.Test.YtfafdkbnmfpbmaaGreatDoorKitS
import Derived.BigQuiet
import Derived.Deep.DeepCutAuto
import Derived.Outline
namespace Go.Proofs.YtfafdkbnmfpbmaaGreatDoor
open Go.RowKit Kit
set_option linter.unusedVariables false
set_option linter.unusedSimpArgs false

theorem lret_bool {a b : Bool} (h : a = b) : Ending.returned (.bool a) = .returned (.bool b) := by rw [h]
theorem lret_str {a b : List UInt8} (h : a = b) : Ending.returned (.string ⟨a.toArray⟩) = .returned (.string ⟨b.toArray⟩) := by rw [h]
theorem ext_eq (l : List UInt8) (a b : Nat) : (⟨l.toArray⟩ : ByteArray).extract a b = ⟨((l.drop a).take (b - a)).toArray⟩ := by
  have h := Lib.extract_data (⟨l.toArray⟩ : ByteArray) a b
  cases hx : (⟨l.toArray⟩ : ByteArray).extract a b with
  | mk d =>
    rw [hx] at h
    simp at h
    congr 1
    apply Array.toList_inj.1
    simpa using h
theorem lblank_any (c : UInt8) (w : World) : Calls Tryz.prog 252 #[.int .u8 c.toNat] w fun e w' => e = .returned (.bool (L6.blank c)) ∧ w = w' := by
  by_cases h1 : c = 32
  · subst h1
    go_enter Tryz.func252, Tryz.ntmps252
    go_wp2
    go_ret
    exact ⟨rfl, rfl⟩
  · have g1 : ((c.toNat : Int) == 32) = false := by
      rw [beq_eq_false_iff_ne]; intro h; apply h1
      have : c.toNat = 32 := by omega
      exact UInt8.toNat_inj.1 this
    by_cases h2 : c = 9
    · subst h2
      go_enter Tryz.func252, Tryz.ntmps252
      go_wp2
      go_ret
      exact ⟨rfl, rfl⟩
    · have g2 : ((c.toNat : Int) == 9) = false := by
        rw [beq_eq_false_iff_ne]; intro h; apply h2
        have : c.toNat = 9 := by omega
        exact UInt8.toNat_inj.1 this
      have HR := Lib.hid (show L6.blank c = false by simp [L6.blank, h1, h2])
      clear h1 h2
      go_enter Tryz.func252, Tryz.ntmps252
      go_wp2
      go_ret
      exact ⟨lret_bool HR.out.symm, rfl⟩
theorem lbare_any (l : List UInt8) (w : World) (hl : l.length ≤ maxLen) : Calls Tryz.prog 191 #[.string ⟨l.toArray⟩] w fun e w' => e = .returned (.string ⟨(L6.bare l).toArray⟩) ∧ w = w' := by
  unfold maxLen at hl
  go_enter Tryz.func191, Tryz.ntmps191
  go_wp2_with fail
  go_loop [0] (fun s => ∃ m : List UInt8, s = .string ⟨m.toArray⟩ ∧ L6.bare m = L6.bare l ∧ m.length ≤ l.length) (fun s => match s with | .string t => t.size | _ => 0)
  case atStart => exact ⟨l, rfl, rfl, Nat.le_refl _⟩
  case round =>
    obtain ⟨m, rfl, hm, hml⟩ := hrel
    have HM := Lib.hid hm
    clear hm
    cases m with
    | nil =>
      go_wp2_with fail
      go_ret
      exact ⟨lret_str HM.out, rfl⟩
    | cons c t =>
      simp only [List.length_cons] at hml
      have cB := Lib.hid (fun W => lblank_any c W)
      cases hb : L6.blank c
      · rw [hb] at cB
        have HB := Lib.hid hb
        clear hb
        go_wp2_with (go_at_call 252; refine (cB.out _).mono ?_; rintro e w' ⟨rfl, rfl⟩)
        go_ret
        exact ⟨lret_str (by rw [← HM.out]; simp [L6.bare, HB.out]), rfl⟩
      · rw [hb] at cB
        have HB := Lib.hid hb
        clear hb
        go_wp2_with (go_at_call 252; refine (cB.out _).mono ?_; rintro e w' ⟨rfl, rfl⟩)
        go_round
        case rel => exact ⟨t, by rw [ext_eq]; simp, by rw [← HM.out]; simp [L6.bare, HB.out], by omega⟩
        case measure => simp [ByteArray.size]
end Go.Proofs.YtfafdkbnmfpbmaaGreatDoor
