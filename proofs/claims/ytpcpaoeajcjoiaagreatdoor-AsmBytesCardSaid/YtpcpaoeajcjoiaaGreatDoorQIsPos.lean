/- Texts joined, what is not reached left out. -/
import Derived.Test.YtpcpaoeajcjoiaaGreatDoorIB
/- Where a name stands in the table. -/
namespace Go.Proofs.YtpcpaoeajcjoiaaGreatDoor
open Go.RowKit
set_option linter.unusedVariables false
set_option linter.unusedSimpArgs false

def Is.nameAt (k : Nat) : ByteArray := ⟨(Is.forms.getD k default).name.toArray⟩
/-- Where a name stands; 48: nowhere. -/
def Is.pos (s : ByteArray) : Nat := (List.range 48).findIdx (fun k => decide (Is.nameAt k = s))
theorem Is.pos_yes {s : ByteArray} {k : Nat} (hk : k < 48) (h : Is.nameAt k = s) (hno : ∀ j, j < k → Is.nameAt j ≠ s) : Is.pos s = k := by
  unfold Is.pos
  rw [List.findIdx_eq (by simpa using hk)]
  refine ⟨by simpa using h, fun j hj => by simpa using hno j hj⟩
theorem Is.pos_no {s : ByteArray} (hno : ∀ j, j < 48 → Is.nameAt j ≠ s) : Is.pos s = 48 := by
  unfold Is.pos
  rw [List.findIdx_eq_length_of_false]
  · simp
  · intro x hx
    have := hno x (by simpa using hx)
    simpa using this
theorem Is.name_ne (k : Nat) (hk : k < 48) : Is.nameAt k ≠ ByteArray.empty := by
  have : ∀ i : Fin 48, (Is.forms.getD i.val default).name ≠ [] := by decide +kernel
  intro h
  refine this ⟨k, hk⟩ ?_
  have h1 : (Is.nameAt k).data.toList = ByteArray.empty.data.toList := by rw [h]
  simpa [Is.nameAt] using h1
/-- What ByName tells. -/
def Is.found (s : ByteArray) : Int := if Is.pos s < 48 then Is.pos s else 0
def Is.isName (s : ByteArray) : Bool := decide (Is.pos s < 48)
theorem Is.found_yes {s : ByteArray} {k : Nat} (hk : k < 48) (h : Is.nameAt k = s) (hno : ∀ j, j < k → Is.nameAt j ≠ s) : Is.found s = k ∧ Is.isName s = true := by
  have := Is.pos_yes hk h hno
  unfold Is.found Is.isName
  rw [this, if_pos hk]
  exact ⟨rfl, by simpa using hk⟩
theorem Is.found_no {s : ByteArray} (hno : ∀ j, j < 48 → Is.nameAt j ≠ s) : Is.found s = 0 ∧ Is.isName s = false := by
  have := Is.pos_no hno
  unfold Is.found Is.isName
  rw [this]
  exact ⟨rfl, by decide⟩
theorem beq_str (a b : ByteArray) : (a.toList == b.toList) = decide (a = b) := by
  rw [Bool.eq_iff_iff]
  simp only [beq_iff_eq, decide_eq_true_eq, ByteArray.toList_eq]
  constructor
  · intro h
    cases a; cases b
    simp only [ByteArray.mk.injEq]
    exact Array.toList_inj.1 h
  · rintro rfl; rfl
theorem ret_ib {a a' : Int} {b b' : Bool} (h : a = a') (h' : b = b') : Ending.returned (.tuple #[.int .i64 a, .bool b]) = .returned (.tuple #[.int .i64 a', .bool b']) := by rw [h, h']
end Go.Proofs.YtpcpaoeajcjoiaaGreatDoor
