/- Lines as text: plain; and Join. -/
import Derived.Test.YtfafdkbnmfpbmaaDoorL6Bd
namespace Go.Proofs.YtfafdkbnmfpbmaaDoor
open Go.RowKit Kit
set_option linter.unusedVariables false
set_option linter.unusedSimpArgs false

/-- How great lines are. -/
def L6.tsum (l : List (List UInt8)) : Nat := (l.map List.length).sum
def L6.lweight (x : L6.Line) : Nat := 4 + x.word.length + x.labels.length + x.args.length + L6.tsum x.labels + L6.tsum x.args
def L6.weight (ls : List L6.Line) : Nat := (ls.map L6.lweight).sum
theorem L6.tsum_cons (x : List UInt8) (t : List (List UInt8)) : L6.tsum (x :: t) = x.length + L6.tsum t := by simp [L6.tsum]
theorem L6.tsum_app (a b : List (List UInt8)) : L6.tsum (a ++ b) = L6.tsum a + L6.tsum b := by simp [L6.tsum]
theorem L6.weight_cons (x : L6.Line) (t : List L6.Line) : L6.weight (x :: t) = L6.lweight x + L6.weight t := by simp [L6.weight]
theorem L6.tsum_mem {l : List (List UInt8)} {x : List UInt8} (h : x ∈ l) : x.length ≤ L6.tsum l := by
  induction l with
  | nil => simp at h
  | cons y t ih =>
    rw [L6.tsum_cons]
    rcases List.mem_cons.1 h with rfl | h
    · omega
    · have := ih h; omega
theorem L6.weight_mem {ls : List L6.Line} {x : L6.Line} (h : x ∈ ls) : L6.lweight x ≤ L6.weight ls := by
  induction ls with
  | nil => simp at h
  | cons y t ih =>
    rw [L6.weight_cons]
    rcases List.mem_cons.1 h with rfl | h
    · omega
    · have := ih h; omega
theorem L6.weight_len (ls : List L6.Line) : 4 * ls.length ≤ L6.weight ls := by
  induction ls with
  | nil => simp
  | cons y t ih => rw [L6.weight_cons, List.length_cons]; unfold L6.lweight; omega
theorem L6.few_of {x : L6.Line} (h : L6.lweight x ≤ 100000000) : x.Few := by
  unfold L6.lweight at h
  refine ⟨⟨by omega, fun y hy => ?_⟩, by omega, by omega, fun y hy => ?_⟩
  · have := L6.tsum_mem hy; omega
  · have := L6.tsum_mem hy; omega
/-- A line's words as they are printed. -/
def L6.marked (l : List (List UInt8)) : List (List UInt8) := l.map (· ++ [58])
def L6.lineWords (x : L6.Line) : List (List UInt8) := L6.marked x.labels ++ (if x.word = [] then [] else [x.word]) ++ x.args
def L6.lineText (x : L6.Line) : List UInt8 := Lib.join (L6.lineWords x) [32] ++ [10]
def L6.text (ls : List L6.Line) : List UInt8 := ls.flatMap L6.lineText
def L6.print (ls : List L6.Line) : List UInt8 × Nat := if ls.all L6.right then (L6.text ls, 0) else ([], 1)
theorem L6.marked_len (l : List (List UInt8)) : (L6.marked l).length = l.length := by simp [L6.marked]
theorem L6.marked_sum (l : List (List UInt8)) : L6.tsum (L6.marked l) = L6.tsum l + l.length := by
  induction l with
  | nil => rfl
  | cons x t ih =>
    show L6.tsum ((x ++ [58]) :: L6.marked t) = _
    rw [L6.tsum_cons, ih, L6.tsum_cons]
    simp; omega
theorem L6.joinTail_len (r : List (List UInt8)) : (Lib.joinTail [32] r).length = L6.tsum r + r.length := by
  induction r with
  | nil => rfl
  | cons x t ih =>
    have e : Lib.joinTail [32] (x :: t) = 32 :: x ++ Lib.joinTail [32] t := by simp [Lib.joinTail]
    rw [e, L6.tsum_cons]
    simp [ih]; omega
theorem L6.join_len (l : List (List UInt8)) : (Lib.join l [32]).length ≤ L6.tsum l + l.length := by
  cases l with
  | nil => simp [Lib.join_nil]
  | cons x t =>
    rw [Lib.join_cons, List.length_append, L6.joinTail_len, L6.tsum_cons]
    simp; omega
theorem L6.lineWords_len (x : L6.Line) : (L6.lineWords x).length ≤ x.labels.length + 1 + x.args.length := by
  unfold L6.lineWords
  split <;> simp [L6.marked_len] <;> omega
theorem L6.lineWords_sum (x : L6.Line) : L6.tsum (L6.lineWords x) ≤ L6.tsum x.labels + x.labels.length + x.word.length + L6.tsum x.args := by
  unfold L6.lineWords
  rw [L6.tsum_app, L6.tsum_app, L6.marked_sum]
  split
  · simp [L6.tsum]
  · rw [L6.tsum_cons]; simp [L6.tsum]
theorem L6.lineText_len (x : L6.Line) : (L6.lineText x).length ≤ 2 * L6.lweight x := by
  unfold L6.lineText
  have h1 := L6.join_len (L6.lineWords x)
  have h2 := L6.lineWords_len x
  have h3 := L6.lineWords_sum x
  simp only [List.length_append, List.length_cons, List.length_nil]
  unfold L6.lweight
  omega
theorem L6.text_len (ls : List L6.Line) : (L6.text ls).length ≤ 2 * L6.weight ls := by
  induction ls with
  | nil => simp [L6.text]
  | cons x t ih =>
    have := L6.lineText_len x
    rw [L6.weight_cons]
    show (L6.lineText x ++ L6.text t).length ≤ _
    rw [List.length_append]
    omega
theorem L6.text_snoc (ls : List L6.Line) (x : L6.Line) : L6.text (ls ++ [x]) = L6.text ls ++ L6.lineText x := by simp [L6.text]
theorem L6.weight_take (ls : List L6.Line) (k : Nat) : L6.weight (ls.take k) ≤ L6.weight ls := by
  induction ls generalizing k with
  | nil => simp
  | cons x t ih =>
    cases k with
    | zero => simp [L6.weight]
    | succ k => rw [List.take_succ_cons, L6.weight_cons, L6.weight_cons]; have := ih k; omega
theorem ljoin_any (v : Value) (l : List (List UInt8)) (w : World) (h : RdS w v l) (hl : l.length + L6.tsum l ≤ 1000000000) :
    Calls Tryd.prog 58 #[v, .string ⟨#[32]⟩] w fun e w' => e = .returned (.string ⟨(Lib.join l [32]).toArray⟩) ∧ Below w.heap.size w w' := by
  cases l with
  | nil =>
    obtain ⟨A, c, rfl⟩ := h.nil_form
    exact (Tryd.strings_Join_none A c ⟨#[32]⟩ w).mono fun e w' hh => ⟨hh.1, by rw [hh.2]; exact Below.refl _ _⟩
  | cons x t =>
    have hpos : 0 < (x :: t).length := by simp
    have hj := L6.join_len (x :: t)
    generalize x :: t = ys at *
    obtain ⟨hl1, A, c, rfl, h2, h3, h4⟩ := h
    obtain ⟨g, off, rfl, hg, hc⟩ := h4 hpos
    have e1 : (ys.map fun y => (⟨y.toArray⟩ : ByteArray)).map (·.data.toList) = ys := by simp [List.map_map, Function.comp_def]
    have := Tryd.strings_Join g off c (ys.map fun y => (⟨y.toArray⟩ : ByteArray)) ⟨#[32]⟩ w (fun j x hx => by
      rw [List.getElem?_map, Option.map_eq_some_iff] at hx
      obtain ⟨y, hy, rfl⟩ := hx
      exact hc j _ (by simp [L6.sv, hy])) hg (by simp; omega) (by simpa using h2) (by rw [e1]; show (Lib.join ys [32]).length ≤ _; omega)
    rw [e1, List.length_map] at this
    exact this
end Go.Proofs.YtfafdkbnmfpbmaaDoor
