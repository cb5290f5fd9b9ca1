/- Texts joined, what is not reached left out. -/
import Derived.Test.YtpcpaoeajcjoiaaGreatDoorQIsRefW
import Derived.Test.YtpcpaoeajcjoiaaGreatDoorQIsPos
import Derived.Deep.DeepCutAuto
/- Names of Ops: the document's table, and where a name stands (XIsNames without Name; never import both). -/
namespace Go.Proofs.YtpcpaoeajcjoiaaGreatDoor
open Go.RowKit
set_option linter.unusedVariables false
set_option linter.unusedSimpArgs false

def Is.nameCells : Array Value := #[.string ⟨#[108, 117, 105]⟩, .string ⟨#[97, 117, 105, 112, 99]⟩, .string ⟨#[106, 97, 108]⟩, .string ⟨#[106, 97, 108, 114]⟩, .string ⟨#[98, 101, 113]⟩, .string ⟨#[98, 110, 101]⟩, .string ⟨#[98, 108, 116]⟩, .string ⟨#[98, 103, 101]⟩, .string ⟨#[98, 108, 116, 117]⟩, .string ⟨#[98, 103, 101, 117]⟩, .string ⟨#[108, 98]⟩, .string ⟨#[108, 104]⟩, .string ⟨#[108, 119]⟩, .string ⟨#[108, 98, 117]⟩, .string ⟨#[108, 104, 117]⟩, .string ⟨#[115, 98]⟩, .string ⟨#[115, 104]⟩, .string ⟨#[115, 119]⟩, .string ⟨#[97, 100, 100, 105]⟩, .string ⟨#[115, 108, 116, 105]⟩, .string ⟨#[115, 108, 116, 105, 117]⟩, .string ⟨#[120, 111, 114, 105]⟩, .string ⟨#[111, 114, 105]⟩, .string ⟨#[97, 110, 100, 105]⟩, .string ⟨#[115, 108, 108, 105]⟩, .string ⟨#[115, 114, 108, 105]⟩, .string ⟨#[115, 114, 97, 105]⟩, .string ⟨#[97, 100, 100]⟩, .string ⟨#[115, 117, 98]⟩, .string ⟨#[115, 108, 108]⟩, .string ⟨#[115, 108, 116]⟩, .string ⟨#[115, 108, 116, 117]⟩, .string ⟨#[120, 111, 114]⟩, .string ⟨#[115, 114, 108]⟩, .string ⟨#[115, 114, 97]⟩, .string ⟨#[111, 114]⟩, .string ⟨#[97, 110, 100]⟩, .string ⟨#[102, 101, 110, 99, 101]⟩, .string ⟨#[101, 99, 97, 108, 108]⟩, .string ⟨#[101, 98, 114, 101, 97, 107]⟩, .string ⟨#[109, 117, 108]⟩, .string ⟨#[109, 117, 108, 104]⟩, .string ⟨#[109, 117, 108, 104, 115, 117]⟩, .string ⟨#[109, 117, 108, 104, 117]⟩, .string ⟨#[100, 105, 118]⟩, .string ⟨#[100, 105, 118, 117]⟩, .string ⟨#[114, 101, 109]⟩, .string ⟨#[114, 101, 109, 117]⟩]
theorem Is.nameCells_at (n : Nat) (hn : n < 48) : Is.nameCells[n]? = some (.string (Is.nameAt n)) :=
  match n, hn with
  | 0, _ => rfl
  | 1, _ => rfl
  | 2, _ => rfl
  | 3, _ => rfl
  | 4, _ => rfl
  | 5, _ => rfl
  | 6, _ => rfl
  | 7, _ => rfl
  | 8, _ => rfl
  | 9, _ => rfl
  | 10, _ => rfl
  | 11, _ => rfl
  | 12, _ => rfl
  | 13, _ => rfl
  | 14, _ => rfl
  | 15, _ => rfl
  | 16, _ => rfl
  | 17, _ => rfl
  | 18, _ => rfl
  | 19, _ => rfl
  | 20, _ => rfl
  | 21, _ => rfl
  | 22, _ => rfl
  | 23, _ => rfl
  | 24, _ => rfl
  | 25, _ => rfl
  | 26, _ => rfl
  | 27, _ => rfl
  | 28, _ => rfl
  | 29, _ => rfl
  | 30, _ => rfl
  | 31, _ => rfl
  | 32, _ => rfl
  | 33, _ => rfl
  | 34, _ => rfl
  | 35, _ => rfl
  | 36, _ => rfl
  | 37, _ => rfl
  | 38, _ => rfl
  | 39, _ => rfl
  | 40, _ => rfl
  | 41, _ => rfl
  | 42, _ => rfl
  | 43, _ => rfl
  | 44, _ => rfl
  | 45, _ => rfl
  | 46, _ => rfl
  | 47, _ => rfl
  | n + 48, h => absurd h (by omega)
theorem rnames_any (w : World) : Calls Tryz.prog 144 #[] w fun e w' => ∃ g, e = .returned (.slice (some ⟨g, 0, none⟩) 48 48) ∧ (∀ j, j < 48 → w'.cell? ⟨g, j, none⟩ = some (.string (Is.nameAt j))) ∧ Below w.heap.size w w' := by
  go_enter Tryz.func144, Tryz.ntmps144
  go_wp2
  go_ret
  refine ⟨_, rfl, fun j hj => ?_, (Below.refl _ _).alloc (Nat.le_refl _) _⟩
  rw [World.cell?_alloc_at _ _ _ _ rfl]
  exact Is.nameCells_at j hj
theorem rbyname_any (s : ByteArray) (w : World) (hs : s.size ≤ maxLen) : Calls Tryz.prog 89 #[.string s] w fun e w' => e = .returned (.tuple #[.int .i64 (Is.found s), .bool (Is.isName s)]) ∧ Below w.heap.size w w' := by
  have HY := Lib.hid (fun (k : Nat) (hk : k < 48) (h : Is.nameAt k = s) (hno : ∀ j, j < k → Is.nameAt j ≠ s) => Is.found_yes hk h hno)
  have HN := Lib.hid (fun (hno : ∀ j, j < 48 → Is.nameAt j ≠ s) => Is.found_no hno)
  go_enter Tryz.func89, Tryz.ntmps89
  go_wp2_with fail
  refine (rnames_any _).mono ?_
  rintro e w1 ⟨g, rfl, hc, hb⟩
  have HC := Lib.hid hc
  have HB := Lib.hid hb
  clear hc hb
  go_wp2_with fail
  go_loop [5] (fun i => ∃ k : Nat, k ≤ 48 ∧ i = .int .i64 k ∧ ∀ j, j < k → Is.nameAt j ≠ s) (fun i => 48 - (intOf i).toNat)
  case atStart => exact ⟨0, Nat.zero_le _, rfl, fun j hj => absurd hj (by omega)⟩
  case round =>
    obtain ⟨k, hk, rfl, hall⟩ := hrel
    have HALL := Lib.hid hall
    clear hall
    by_cases hlt : k < 48
    · have q := HC.out k hlt
      obtain ⟨t, ht⟩ : ∃ t, Is.nameAt k = t := ⟨_, rfl⟩
      rw [ht] at q
      have HT := Lib.hid ht
      clear ht
      have hlt' : (k : Int) < 48 := by omega
      by_cases he : t = s
      · subst he
        have HR := Lib.hid (HY.out k hlt HT.out HALL.out)
        go_wp2_with fail
        go_ret2
        exact ⟨ret_ib HR.out.1.symm HR.out.2.symm, HB.out⟩
      · have ge : (t.toList == s.toList) = false := by rw [beq_str]; simpa using he
        have HE := Lib.hid he
        clear he
        go_wp2_with fail
        go_round
        case rel =>
          refine ⟨k + 1, by omega, by go_num, fun j hj => ?_⟩
          by_cases hjk : j = k
          · subst hjk; rw [HT.out]; exact HE.out
          · exact HALL.out j (by omega)
        case measure => simp [intOf]; omega
    · obtain rfl : k = 48 := by omega
      have HR := Lib.hid (HN.out HALL.out)
      go_wp2_with fail
      go_ret2
      exact ⟨ret_ib HR.out.1.symm HR.out.2.symm, HB.out⟩
end Go.Proofs.YtpcpaoeajcjoiaaGreatDoor
