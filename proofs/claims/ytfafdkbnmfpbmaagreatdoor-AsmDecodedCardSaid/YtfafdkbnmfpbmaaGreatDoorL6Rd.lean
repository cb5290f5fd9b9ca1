/- Lines that are read. -/
import Derived.Test.YtfafdkbnmfpbmaaGreatDoorL6Base
import Derived.Deep.RegionHeld3
import Derived.Test.YtfafdkbnmfpbmaaGreatDoorKitQ
namespace Go.Proofs.YtfafdkbnmfpbmaaGreatDoor
open Go.RowKit Kit
set_option linter.unusedVariables false
set_option linter.unusedSimpArgs false

/-- These cells read as these lines. -/
def LinesRd (w : World) : List L6.Line → List Value → Prop
  | [], cs => cs = []
  | x :: t, cs => ∃ vl va r, cs = vl :: .string ⟨x.word.toArray⟩ :: va :: r ∧ RdS w vl x.labels ∧ RdS w va x.args ∧ LinesRd w t r
theorem LinesV.rd {base : Nat} {w : World} : ∀ {ls : List L6.Line} {cs : List Value}, LinesV base w ls cs → LinesRd w ls cs
  | [], _, e => e
  | _ :: _, _, ⟨vl, va, r, e, h1, h2, h3⟩ => ⟨vl, va, r, e, h1.rd, h2.rd, LinesV.rd h3⟩
theorem LinesRd.kept {w w' : World} (hb : Below w.heap.size w w') : ∀ {ls : List L6.Line} {cs : List Value}, LinesRd w ls cs → LinesRd w' ls cs
  | [], _, e => e
  | _ :: _, _, ⟨vl, va, r, e, h1, h2, h3⟩ => ⟨vl, va, r, e, h1.kept hb, h2.kept hb, LinesRd.kept hb h3⟩
theorem LinesRd.at {w : World} : ∀ {ls : List L6.Line} {cs : List Value} (k : Nat) (hk : k < ls.length), LinesRd w ls cs → ∃ vl va, cs[k * 3]? = some vl ∧ cs[k * 3 + 1]? = some (.string ⟨ls[k].word.toArray⟩) ∧ cs[k * 3 + 2]? = some va ∧ RdS w vl ls[k].labels ∧ RdS w va ls[k].args
  | [], _, k, hk, _ => by simp at hk
  | x :: t, _, 0, _, ⟨vl, va, r, e, h1, h2, h3⟩ => by subst e; exact ⟨vl, va, rfl, rfl, rfl, h1, h2⟩
  | x :: t, _, k + 1, hk, ⟨vl, va, r, e, h1, h2, h3⟩ => by
    subst e
    obtain ⟨ul, ua, g1, g2, g3, g4, g5⟩ := LinesRd.at k (by simpa using hk) h3
    refine ⟨ul, ua, ?_, ?_, ?_, by simpa using g4, by simpa using g5⟩
    · rw [show (k + 1) * 3 = k * 3 + 3 by omega]; simpa using g1
    · rw [show (k + 1) * 3 + 1 = k * 3 + 1 + 3 by omega]; simpa using g2
    · rw [show (k + 1) * 3 + 2 = k * 3 + 2 + 3 by omega]; simpa using g3
def RdL (w : World) (v : Value) (ls : List L6.Line) : Prop := ∃ cs, Rd w 3 v ls.length cs ∧ LinesRd w ls cs
theorem ROwnL.rd {base : Nat} {w : World} {v : Value} {ls : List L6.Line} (h : ROwnL base w v ls) : RdL w v ls := by
  obtain ⟨cs, h1, h2⟩ := h
  exact ⟨cs, Rd.of_own h1, h2.rd⟩
theorem OwnL.rd {base : Nat} {w : World} {v : Value} {ls : List L6.Line} (h : OwnL base w v ls) : RdL w v ls := by
  obtain ⟨cs, h1, h2⟩ := h
  exact ⟨cs, Rd.of_own h1, h2.rd⟩
theorem RdL.kept {w w' : World} {v : Value} {ls : List L6.Line} (h : RdL w v ls) (hb : Below w.heap.size w w') : RdL w' v ls := by
  obtain ⟨cs, h1, h2⟩ := h
  exact ⟨cs, h1.kept hb, h2.kept hb⟩
theorem RdL.form {w : World} {v : Value} {ls : List L6.Line} (h : RdL w v ls) : ∃ A c, v = .slice A ls.length c := by
  obtain ⟨cs, h1, _⟩ := h
  exact h1.form
/-- The k-th line. -/
theorem RdL.at {w : World} {v : Value} {ls : List L6.Line} (h : RdL w v ls) {k : Nat} (hk : k < ls.length) : ∃ g off c vl va, v = .slice (some ⟨g, off, none⟩) ls.length c ∧ g < w.heap.size ∧
    w.cell? ⟨g, off + k * 3, none⟩ = some vl ∧ w.cell? ⟨g, off + k * 3 + 1, none⟩ = some (.string ⟨ls[k].word.toArray⟩) ∧ w.cell? ⟨g, off + k * 3 + 2, none⟩ = some va ∧ RdS w vl ls[k].labels ∧ RdS w va ls[k].args := by
  obtain ⟨cs, ⟨hl, A, c, rfl, h2, h3, h4⟩, hr⟩ := h
  obtain ⟨g, off, rfl, hg, hc⟩ := h4 (by omega)
  obtain ⟨vl, va, e0, e1, e2, r1, r2⟩ := hr.at k hk
  exact ⟨g, off, c, vl, va, rfl, hg, hc _ _ e0, hc _ _ e1, hc _ _ e2, r1, r2⟩
theorem lines_step {l l' : List L6.Line} {k : Nat} (hl : l.length = l'.length) (h : ∀ j (h1 : j < l.length) (h2 : j < l'.length), j < k → l[j] = l'[j]) (hk : l.length ≤ k) : l = l' :=
  List.ext_getElem hl fun j h1 h2 => h j h1 h2 (by omega)
def L6.Line.fits (x : L6.Line) : Prop := x.labels.length ≤ 1000000000 ∧ x.args.length ≤ 1000000000
theorem L6.line_ne_word {x y : L6.Line} (h : x.word ≠ y.word) : x ≠ y := fun e => h (by rw [e])
theorem L6.line_ne_labels {x y : L6.Line} (h : x.labels ≠ y.labels) : x ≠ y := fun e => h (by rw [e])
theorem L6.line_ne_args {x y : L6.Line} (h : x.args ≠ y.args) : x ≠ y := fun e => h (by rw [e])
theorem lines_ne {l l' : List L6.Line} {k : Nat} (h1 : k < l.length) (h2 : k < l'.length) (h : l[k] ≠ l'[k]) : decide (l = l') = false := by
  rw [decide_eq_false_iff_not]; intro e; subst e; exact h rfl
end Go.Proofs.YtfafdkbnmfpbmaaGreatDoor
