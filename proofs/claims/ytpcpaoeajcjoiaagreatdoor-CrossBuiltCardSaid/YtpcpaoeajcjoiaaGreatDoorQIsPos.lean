/- Texts joined, what is not reached left out. -/
import Derived.Test.YtpcpaoeajcjoiaaGreatDoorIB
set_option linter.unusedVariables false
set_option linter.unusedSimpArgs false
namespace Go.Proofs.YtpcpaoeajcjoiaaGreatDoor
open Go.RowKit
def Is.nameAt (k : Nat) : ByteArray:=⟨(Is.forms.getD k default).name.toArray⟩
def Is.pos (s : ByteArray) : Nat:=(List.range 48).findIdx (fun k=>decide (Is.nameAt k = s))
theorem Is.pos_yes {s : ByteArray} {k : Nat} (hk : k < 48) (h : Is.nameAt k = s) (hno : ∀ j,j < k → Is.nameAt j ≠ s) : Is.pos s = k:=by
 unfold Is.pos
 rw [List.findIdx_eq (by simpa using hk)]
 refine ⟨by simpa using h,fun j hj=>by simpa using hno j hj⟩
theorem Is.pos_no {s : ByteArray} (hno : ∀ j,j < 48 → Is.nameAt j ≠ s) : Is.pos s = 48:=by
 unfold Is.pos
 rw [List.findIdx_eq_length_of_false]
 ·simp
 ·intro x hx
  have:=hno x (by simpa using hx)
  simpa using this
def Is.found (s : ByteArray) : Int:=if Is.pos s < 48 then Is.pos s else 0
def Is.isName (s : ByteArray) : Bool:=decide (Is.pos s < 48)
theorem beq_str (a b : ByteArray) : (a.toList == b.toList) = decide (a = b):=by
 rw [Bool.eq_iff_iff]
 simp only [beq_iff_eq,decide_eq_true_eq,ByteArray.toList_eq]
 constructor
 ·intro h
  cases a;cases b
  simp only [ByteArray.mk.injEq]
  exact Array.toList_inj.1 h
 ·rintro rfl;rfl
theorem ret_ib {a a' : Int} {b b' : Bool} (h : a = a') (h' : b = b') : Ending.returned (.tuple #[.int .i64 a,.bool b]) = .returned (.tuple #[.int .i64 a',.bool b']):=by rw [h,h']
end Go.Proofs.YtpcpaoeajcjoiaaGreatDoor
