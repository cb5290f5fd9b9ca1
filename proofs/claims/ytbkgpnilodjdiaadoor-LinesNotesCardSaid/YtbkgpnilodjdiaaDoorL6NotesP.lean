/- Blanks, tabs and notes change nothing: plain. -/
import Derived.Test.YtbkgpnilodjdiaaDoorL6BackL
namespace Go.Proofs.YtbkgpnilodjdiaaDoor
open Go.RowKit Kit
set_option linter.unusedVariables false
set_option linter.unusedSimpArgs false

def L6.pre (note : List UInt8) : List UInt8 := [32, 9, 47, 47, 32] ++ note
/-- A text with a note behind each line and blanks ahead. -/
def L6.noted (note : List UInt8) : Bool → List UInt8 → List UInt8
  | _, [] => []
  | b, c :: r => (if c = 10 then L6.pre note else []) ++ (if b then [9, 32] else []) ++ [c] ++ L6.noted note (c == 10) r
theorem L6.noted_cons (note : List UInt8) (b : Bool) (c : UInt8) (r : List UInt8) : L6.noted note b (c :: r) = (if c = 10 then L6.pre note else []) ++ (if b then [9, 32] else []) ++ [c] ++ L6.noted note (c == 10) r := rfl
def L6.tline (note J : List UInt8) : List UInt8 := if J = [] then L6.pre note ++ [9, 32] else [9, 32] ++ J ++ L6.pre note
theorem L6.noted_in (note : List UInt8) : ∀ {J r : List UInt8}, 10 ∉ J → L6.noted note false (J ++ 10 :: r) = J ++ L6.pre note ++ 10 :: L6.noted note true r
  | [], r, _ => by rw [List.nil_append, L6.noted_cons]; simp
  | c :: J, r, h => by
    have hc : c ≠ 10 := fun e => h (by simp [e])
    have hJ : 10 ∉ J := fun e => h (by simp [e])
    have hb : (c == 10) = false := by simpa using hc
    rw [List.cons_append, L6.noted_cons, hb, L6.noted_in note hJ, if_neg hc]
    simp
theorem L6.noted_line (note : List UInt8) {J r : List UInt8} (h : 10 ∉ J) : L6.noted note true (J ++ 10 :: r) = L6.tline note J ++ 10 :: L6.noted note true r := by
  cases J with
  | nil => rw [List.nil_append, L6.noted_cons]; simp [L6.tline]
  | cons c J =>
    have hc : c ≠ 10 := fun e => h (by simp [e])
    have hJ : 10 ∉ J := fun e => h (by simp [e])
    have hb : (c == 10) = false := by simpa using hc
    rw [List.cons_append, L6.noted_cons, hb, L6.noted_in note hJ, if_neg hc]
    simp [L6.tline]
theorem L6.wordsOf_pre (note tail : List UInt8) : L6.wordsOf (L6.pre note ++ tail) = some [] := by
  have e : L6.pre note ++ tail = 32 :: 9 :: 47 :: 47 :: 32 :: (note ++ tail) := by simp [L6.pre]
  rw [e, L6.wordsOf_skip 32 _ rfl, L6.wordsOf_skip 9 _ rfl]
  have hb : L6.bare (47 :: 47 :: 32 :: (note ++ tail)) = 47 :: 47 :: 32 :: (note ++ tail) := by
    unfold L6.bare; rw [if_neg (by decide)]
  rw [L6.wordsOf_next _ _ _ hb, L6.next_plain (by decide)]
  have hw : L6.word (47 :: 47 :: 32 :: (note ++ tail)) = [47, 47] := by
    unfold L6.word; rw [if_neg (by decide)]
    unfold L6.word; rw [if_neg (by decide)]
    unfold L6.word; rw [if_pos (by decide)]
  rw [hw]
  rfl
theorem L6.wordsOf_tail (note : List UInt8) : ∀ {ws : List (List UInt8)}, (∀ x ∈ ws, L6.Wd x) → L6.wordsOf (Lib.joinTail [32] ws ++ L6.pre note) = some ws
  | [], _ => by
    have := L6.wordsOf_pre note []
    rw [List.append_nil] at this
    simpa [Lib.joinTail] using this
  | x :: t, h => by
    have e : Lib.joinTail [32] (x :: t) ++ L6.pre note = 32 :: (x ++ (Lib.joinTail [32] t ++ L6.pre note)) := by simp [Lib.joinTail]
    have hf : L6.free (Lib.joinTail [32] t ++ L6.pre note) = true := by
      cases t with
      | nil => rfl
      | cons y r => simp [Lib.joinTail, L6.free, L6.blank]
    rw [e, L6.wordsOf_skip 32 _ rfl, L6.wordsOf_wd (h x (by simp)) hf, L6.wordsOf_tail note fun y hy => h y (by simp [hy])]
    rfl
theorem L6.wordsOf_tline (note : List UInt8) {ws : List (List UInt8)} (h : ∀ x ∈ ws, L6.Wd x) : L6.wordsOf (L6.tline note (Lib.join ws [32])) = some ws := by
  unfold L6.tline
  cases ws with
  | nil => rw [if_pos (by rfl)]; exact L6.wordsOf_pre note [9, 32]
  | cons x t =>
    have hx := h x (by simp)
    rw [if_neg (by rw [Lib.join_cons]; intro e; exact hx.ne (List.append_eq_nil_iff.1 e).1), Lib.join_cons]
    have e : [9, 32] ++ (x ++ Lib.joinTail [32] t) ++ L6.pre note = 9 :: 32 :: (x ++ (Lib.joinTail [32] t ++ L6.pre note)) := by simp
    have hf : L6.free (Lib.joinTail [32] t ++ L6.pre note) = true := by
      cases t with
      | nil => rfl
      | cons y r => simp [Lib.joinTail, L6.free, L6.blank]
    rw [e, L6.wordsOf_skip 9 _ rfl, L6.wordsOf_skip 32 _ rfl, L6.wordsOf_wd hx hf, L6.wordsOf_tail note fun y hy => h y (by simp [hy])]
    rfl
theorem L6.tline_free {note J : List UInt8} (hn : 10 ∉ note) (hJ : 10 ∉ J) : 10 ∉ L6.tline note J := by
  unfold L6.tline L6.pre
  split <;> simp [hn, hJ]
theorem L6.split_noted {note : List UInt8} (hn : 10 ∉ note) : ∀ {ls : List L6.Line}, (∀ x ∈ ls, L6.right x = true) → L6.split (L6.noted note true (L6.text ls)) = ls.map fun x => L6.tline note (Lib.join (L6.lineWords x) [32])
  | [], _ => rfl
  | x :: t, h => by
    have hf := L6.join_free fun y hy => (L6.line_wd (h x (by simp)) y hy).2
    have e : L6.text (x :: t) = Lib.join (L6.lineWords x) [32] ++ 10 :: L6.text t := by
      show L6.lineText x ++ L6.text t = _
      unfold L6.lineText
      simp
    rw [e, L6.noted_line note hf, L6.split_free (L6.tline_free hn hf), L6.split_noted hn fun y hy => h y (by simp [hy])]
    rfl
theorem L6.parseL_noted {note : List UInt8} : ∀ {ls : List L6.Line} (n : Nat) (acc : List L6.Line), (∀ x ∈ ls, L6.right x = true) →
    (∃ m, L6.parseL n acc (ls.map fun x => L6.tline note (Lib.join (L6.lineWords x) [32])) = ([], m + 1, 6)) ∨ L6.parseL n acc (ls.map fun x => L6.tline note (Lib.join (L6.lineWords x) [32])) = (acc ++ ls, 0, 0)
  | [], n, acc, _ => .inr (by simp [L6.parseL])
  | x :: t, n, acc, h => by
    rw [List.map_cons]
    unfold L6.parseL
    split
    · exact .inl ⟨n, rfl⟩
    · rw [L6.wordsOf_tline note fun y hy => (L6.line_wd (h x (by simp)) y hy).1]
      simp only
      rw [L6.line_back (h x (by simp))]
      rcases L6.parseL_noted (note := note) (ls := t) (n + 1) (acc ++ [x]) fun y hy => h y (by simp [hy]) with h' | h'
      · exact .inl h'
      · exact .inr (by rw [h']; simp)
theorem L6.parse_noted {note : List UInt8} (hn : 10 ∉ note) {ls : List L6.Line} (h : ∀ x ∈ ls, L6.right x = true) (hl : ls.length ≤ 32768) :
    (∃ m, L6.parse (L6.noted note true (L6.text ls)) = ([], m + 1, 6)) ∨ L6.parse (L6.noted note true (L6.text ls)) = (ls, 0, 0) := by
  unfold L6.parse
  rw [L6.split_noted hn h, if_neg (by rw [List.length_map]; omega)]
  simpa using L6.parseL_noted (note := note) (ls := ls) 0 [] h
theorem L6.noted_len (note : List UInt8) : ∀ (b : Bool) (s : List UInt8), (L6.noted note b s).length ≤ (8 + note.length) * s.length
  | _, [] => by simp [L6.noted]
  | b, c :: r => by
    have ih := L6.noted_len note (c == 10) r
    rw [L6.noted_cons]
    have h1 : (if c = 10 then L6.pre note else []).length ≤ 5 + note.length := by split <;> simp [L6.pre] <;> omega
    have h2 : (if b then ([9, 32] : List UInt8) else []).length ≤ 2 := by split <;> simp
    simp only [List.length_append, List.length_cons, List.length_nil, Nat.mul_add, Nat.mul_one]
    omega
end Go.Proofs.YtbkgpnilodjdiaaDoor
