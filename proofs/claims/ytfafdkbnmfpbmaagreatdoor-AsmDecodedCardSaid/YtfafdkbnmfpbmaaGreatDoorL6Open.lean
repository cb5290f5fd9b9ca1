/- Lines that come in. -/
import Derived.Test.YtfafdkbnmfpbmaaGreatDoorKitW
import Derived.Test.YtfafdkbnmfpbmaaGreatDoorL6Rd
namespace Go.Proofs.YtfafdkbnmfpbmaaGreatDoor
open Go.RowKit Kit Go.ChangeShapes Go.WideShapes Go.Deep
set_option linter.unusedVariables false
set_option linter.unusedSimpArgs false

/-- A list of texts that is no greater than the reach. -/
def L6.Texts (l : List (List UInt8)) : Prop := l.length ≤ 140737488351232 ∧ ∀ x ∈ l, x.length ≤ 140737488351232
theorem open_texts {H : Type} {enc : TypeId × Value → H} {w : World} {v : Value} {fuel : Nat} {y : DataW H × List MemPlace}
    (h : DataW.trod enc Tryz.prog w 0 (fun _ => true) true fuel 47 [v] = some y) (hw : Fits Tryz.prog 47 y.1) : ∃ l, RdS w v l ∧ L6.Texts l := by
  obtain ⟨xs, h1, h2, h3⟩ := open_rowsW (spare := fun _ => true) (fun x : List UInt8 => [Value.string ⟨x.toArray⟩]) 1 (by decide) (fun _ => rfl) (fun x => x.length ≤ 140737488351232) Tryz.underlying47 (by kernel_rfl) (fun _ => rfl)
    (fun n cs y hl ht hf => by
      obtain ⟨s, rfl, hy, _⟩ := DataW.trod_string Tryz.underlying9 ht
      rw [hy] at hf
      exact ⟨s.data.toList, by simp, hf.text⟩) h hw
  refine ⟨xs, ?_, ?_, h2⟩
  · unfold RdS L6.sv
    rw [show xs.map (fun x => Value.string ⟨x.toArray⟩) = xs.flatMap fun x => [Value.string ⟨x.toArray⟩] from by
      clear h1 h2 h3
      induction xs with
      | nil => rfl
      | cons x t ih => simp [ih]]
    exact h1
  · rw [show Tryz.prog.bytesOf 9 = 16 from by kernel_rfl] at h3
    simp only [reachBytes] at h3
    omega
/-- A line that comes in, with the values of its slices. -/
structure L6.In where
  vl : Value
  va : Value
  line : L6.Line
def L6.In.cells (x : L6.In) : List Value := [x.vl, .string ⟨x.line.word.toArray⟩, x.va]
def L6.Line.Small (x : L6.Line) : Prop := L6.Texts x.labels ∧ x.word.length ≤ 140737488351232 ∧ L6.Texts x.args
def L6.In.ok (w : World) (x : L6.In) : Prop := RdS w x.vl x.line.labels ∧ RdS w x.va x.line.args ∧ x.line.Small
set_option maxRecDepth 100000 in
theorem open_line {H : Type} {enc : TypeId × Value → H} {w : World} {n : Nat} {cs : List Value} {y : DataW H × List MemPlace} (hl : cs.length = 3)
    (ht : DataW.trod enc Tryz.prog w 0 (fun _ => true) true n 108 cs = some y) (hw : Fits Tryz.prog 108 y.1) : ∃ x : L6.In, cs = x.cells ∧ x.ok w := by
  obtain ⟨m, hf⟩ := struct_fieldsW Tryz.underlying108 (by kernel_rfl) (by kernel_rfl) ht hl hw
  obtain ⟨v0, y0, e0, h0, w0⟩ := hf 0 _ rfl
  obtain ⟨v1, y1, e1, h1, w1⟩ := hf 1 _ rfl
  obtain ⟨v2, y2, e2, h2, w2⟩ := hf 2 _ rfl
  obtain ⟨ll, r0, t0⟩ := open_texts h0 w0
  obtain ⟨la, r2, t2⟩ := open_texts h2 w2
  obtain ⟨s, k1, hy, _⟩ := DataW.trod_string Tryz.underlying9 h1
  rw [hy] at w1
  have hs := w1.text
  simp only [List.cons.injEq, and_true] at k1
  subst k1
  match cs, hl with
  | [c0, c1, c2], _ =>
    simp at e0 e1 e2
    subst e0 e1 e2
    exact ⟨⟨c0, c2, ⟨ll, s.data.toList, la⟩⟩, by simp [L6.In.cells], r0, r2, t0, hs, t2⟩
theorem lines_of_in {w : World} : ∀ {xs : List L6.In}, (∀ x ∈ xs, x.ok w) → LinesRd w (xs.map (·.line)) (xs.flatMap L6.In.cells)
  | [], _ => rfl
  | x :: t, h => ⟨x.vl, x.va, t.flatMap L6.In.cells, rfl, (h x (by simp)).1, (h x (by simp)).2.1, lines_of_in fun y hy => h y (by simp [hy])⟩
/-- Lines that come in. -/
def L6.Small (ls : List L6.Line) : Prop := ls.length ≤ 2199023255552 ∧ ∀ x ∈ ls, x.Small
set_option maxRecDepth 100000 in
theorem open_lines_cell {H : Type} {enc : TypeId × Value → H} {w : World} {v : Value} {fuel : Nat} {y : DataW H × List MemPlace}
    (h : DataW.trod enc Tryz.prog w 0 (fun _ => true) true fuel 22 [v] = some y) (hw : Fits Tryz.prog 22 y.1) : ∃ ls, RdL w v ls ∧ L6.Small ls := by
  obtain ⟨xs, h1, h2, h3⟩ := open_rowsW (spare := fun _ => true) L6.In.cells 3 (by decide) (fun _ => rfl) (L6.In.ok w) Tryz.underlying22 (by kernel_rfl) (fun _ => rfl) (fun n cs y hl ht hf => open_line hl ht hf) h hw
  refine ⟨xs.map (·.line), ⟨xs.flatMap L6.In.cells, by simpa using h1, lines_of_in h2⟩, ?_, fun x hx => ?_⟩
  · rw [show Tryz.prog.bytesOf 108 = 64 from by kernel_rfl] at h3
    simp only [reachBytes] at h3
    simp only [List.length_map]
    omega
  · obtain ⟨y, hy, rfl⟩ := List.mem_map.1 hx
    exact (h2 y hy).2.2
set_option maxRecDepth 100000 in
theorem open_lines {H : Type} {enc : TypeId × Value → H} {w : World} {b0 : Nat} {v : Value} {d : DataW H} {p : List MemPlace} (hv : Value.okWide Tryz.prog w .any b0 22 v)
    (h : DataW.Trod enc Tryz.prog w 0 (fun _ => true) true 22 v d p) (hw : Fits Tryz.prog 22 d) : ∃ ls, RdL w v ls ∧ L6.Small ls := by
  obtain ⟨a0, len, cap, rfl⟩ := okWide_slice Tryz.underlying22 hv
  obtain ⟨fuel, hf⟩ := h
  exact open_lines_cell (by simpa [Value.cells] using hf) hw
end Go.Proofs.YtfafdkbnmfpbmaaGreatDoor
