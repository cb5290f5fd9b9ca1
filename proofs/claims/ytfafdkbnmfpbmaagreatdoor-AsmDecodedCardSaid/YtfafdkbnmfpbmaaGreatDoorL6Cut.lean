/- A text's pieces, in plain Lean: what strings.Lines yields, and what lines.cut makes of it. -/
import Derived.Test.YtfafdkbnmfpbmaaGreatDoorL6LineW
namespace Go.Proofs.YtfafdkbnmfpbmaaGreatDoor
open Go.RowKit Kit
set_option linter.unusedVariables false
set_option linter.unusedSimpArgs false

def L6.piece : List UInt8 → List UInt8 × List UInt8
  | [] => ([], [])
  | c :: t => if c = 10 then ([10], t) else (c :: (L6.piece t).1, (L6.piece t).2)
theorem L6.piece_app : ∀ l, (L6.piece l).1 ++ (L6.piece l).2 = l
  | [] => rfl
  | c :: t => by
    unfold L6.piece
    split
    · rename_i h; rw [h]; rfl
    · simp [L6.piece_app t]
theorem L6.piece_pos : ∀ {l : List UInt8}, l ≠ [] → 0 < (L6.piece l).1.length
  | [], h => absurd rfl h
  | c :: t, _ => by unfold L6.piece; split <;> simp
theorem L6.piece_left {l : List UInt8} (h : l ≠ []) : (L6.piece l).2.length < l.length := by
  have h1 := congrArg List.length (L6.piece_app l)
  have h2 := L6.piece_pos h
  simp only [List.length_append] at h1
  omega
theorem L6.piece_none : ∀ {l : List UInt8}, Lib.indexByte l 10 = -1 → L6.piece l = (l, [])
  | [], _ => rfl
  | c :: t, h => by
    unfold Lib.indexByte at h
    by_cases hc : c = 10
    · subst hc; simp at h
    · have hc' : (c == 10) = false := by simpa using hc
      rw [hc'] at h
      simp only [Bool.false_eq_true, if_false] at h
      by_cases ht : Lib.indexByte t 10 = -1
      · unfold L6.piece; rw [if_neg hc, L6.piece_none ht]
      · have ht' : (Lib.indexByte t 10 == -1) = false := by simpa using ht
        rw [ht'] at h
        have := Lib.indexByte_ge t 10
        simp only [Bool.false_eq_true, if_false] at h
        omega
theorem L6.piece_some : ∀ {l : List UInt8} (i : Nat), Lib.indexByte l 10 = (i : Int) → i < l.length ∧ L6.piece l = (l.take (i + 1), l.drop (i + 1))
  | [], i, h => by unfold Lib.indexByte at h; omega
  | c :: t, i, h => by
    unfold Lib.indexByte at h
    by_cases hc : c = 10
    · subst hc
      simp at h
      have hi : i = 0 := by omega
      subst hi
      exact ⟨by simp, by unfold L6.piece; simp⟩
    · have hc' : (c == 10) = false := by simpa using hc
      rw [hc'] at h
      simp only [Bool.false_eq_true, if_false] at h
      by_cases ht : Lib.indexByte t 10 = -1
      · rw [ht] at h; simp at h
      · have ht' : (Lib.indexByte t 10 == -1) = false := by simpa using ht
        rw [ht'] at h
        have h0 := Lib.indexByte_ge t 10
        simp only [Bool.false_eq_true, if_false] at h
        obtain ⟨j, rfl⟩ : ∃ j, i = j + 1 := ⟨i - 1, by omega⟩
        obtain ⟨h1, h2⟩ := L6.piece_some (l := t) j (by omega)
        refine ⟨by simp; omega, ?_⟩
        unfold L6.piece
        rw [if_neg hc, h2]
        simp
def L6.trim (l : List UInt8) : List UInt8 := Lib.trimSuffix l [10]
theorem L6.trim_eq (l : List UInt8) : L6.trim l = if (!l.isEmpty && l.getLastD 0 == 10) = true then l.dropLast else l := by
  unfold L6.trim Lib.trimSuffix
  rw [L6.suffix_one, List.dropLast_eq_take]
  rfl
theorem L6.trim_cons {c : UInt8} {p : List UInt8} (h : p ≠ []) : L6.trim (c :: p) = c :: L6.trim p := by
  rw [L6.trim_eq, L6.trim_eq]
  cases p with
  | nil => exact absurd rfl h
  | cons d q =>
    have e : (c :: d :: q).getLastD 0 = (d :: q).getLastD 0 := by simp [List.getLastD]
    rw [e]
    simp only [List.isEmpty_cons, Bool.not_false, Bool.true_and]
    split <;> simp
theorem L6.trim_len (l : List UInt8) : (L6.trim l).length ≤ l.length := by
  rw [L6.trim_eq]; split <;> simp
theorem L6.split_cons (c : UInt8) (t : List UInt8) : L6.split (c :: t) = if c = 10 then [] :: L6.split t else match L6.split t with
    | [] => [[c]]
    | a :: r => (c :: a) :: r := rfl
theorem L6.piece_cons (c : UInt8) (t : List UInt8) : L6.piece (c :: t) = if c = 10 then ([10], t) else (c :: (L6.piece t).1, (L6.piece t).2) := rfl
theorem L6.split_piece : ∀ {l : List UInt8}, l ≠ [] → L6.split l = L6.trim (L6.piece l).1 :: L6.split (L6.piece l).2
  | [], h => absurd rfl h
  | c :: t, _ => by
    rw [L6.split_cons, L6.piece_cons]
    by_cases hc : c = 10
    · subst hc; simp [L6.trim_eq]
    · rw [if_neg hc, if_neg hc]
      cases t with
      | nil => simp [L6.split, L6.piece, L6.trim_eq, hc]
      | cons d q =>
        have h1 := L6.split_piece (l := d :: q) (by simp)
        have h2 := L6.piece_pos (l := d :: q) (by simp)
        rw [h1, L6.trim_cons (by intro e; rw [e] at h2; simp at h2)]
theorem L6.split_len : ∀ (l : List UInt8), (L6.split l).length = l.count 10 + (if (!l.isEmpty && !(l.getLastD 0 == 10)) = true then 1 else 0)
  | [] => rfl
  | c :: t => by
    rw [L6.split_cons]
    have ih := L6.split_len t
    cases t with
    | nil => by_cases hc : c = 10 <;> simp [hc, L6.split]
    | cons d q =>
      have e : (c :: d :: q).getLastD 0 = (d :: q).getLastD 0 := by simp [List.getLastD]
      rw [e]
      simp only [List.isEmpty_cons, Bool.not_false, Bool.true_and] at ih ⊢
      by_cases hc : c = 10
      · subst hc
        rw [if_pos rfl, List.length_cons, ih, List.count_cons_self]
        omega
      · rw [if_neg hc, List.count_cons_of_ne hc]
        rw [← ih, L6.split_piece (l := d :: q) (by simp)]
        simp
theorem L6.split_each : ∀ (l : List UInt8), ∀ x ∈ L6.split l, x.length ≤ l.length := by
  intro l
  induction hn : l.length using Nat.strongRecOn generalizing l with
  | ind n ih =>
    intro x hx
    by_cases h : l = []
    · subst h; simp [L6.split] at hx
    · have h1 := L6.piece_left h
      have h2 := congrArg List.length (L6.piece_app l)
      simp only [List.length_append] at h2
      rw [L6.split_piece h] at hx
      rcases List.mem_cons.1 hx with rfl | hx
      · have := L6.trim_len (L6.piece l).1; omega
      · have := ih _ (by omega) (L6.piece l).2 rfl x hx; omega
/-- What Parse answers. -/
def L6.parseL : Nat → List L6.Line → List (List UInt8) → List L6.Line × Nat × Nat
  | _, acc, [] => (acc, 0, 0)
  | n, acc, t :: r => if 256 < t.length then ([], n + 1, 6) else match L6.wordsOf t with
    | none => ([], n + 1, 40)
    | some ws => L6.parseL (n + 1) (acc ++ [L6.line ws]) r
def L6.parse (s : List UInt8) : List L6.Line × Nat × Nat :=
  if 32768 < (L6.split s).length then ([], 0, 6) else L6.parseL 0 [] (L6.split s)
end Go.Proofs.YtfafdkbnmfpbmaaGreatDoor
