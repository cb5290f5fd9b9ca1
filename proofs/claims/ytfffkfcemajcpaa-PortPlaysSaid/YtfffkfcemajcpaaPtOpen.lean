/- Arguments of PortPlays, opened: bytes with their size, acts. -/
import Derived.Test.YtfffkfcemajcpaaKitS
import Derived.Test.YtfffkfcemajcpaaPtOwn
import Derived.SizedLaws
namespace Go.Proofs.Ytfffkfcemajcpaa
open Go.RowKit Kit Go.ChangeShapes Go.WideShapes Go.Deep
set_option linter.unusedVariables false
set_option linter.unusedSimpArgs false

/-- Bytes that come in, and how many they are by what was read. -/
theorem open_bytes_sized {H : Type} {enc : TypeId × Value → H} {P : Program} {W : World} {b0 : Nat} {t e : TypeId} (bt : ByteTy P t e) (hc1 : P.cellsOf e = 1) {v : Value} {d : DataW H} {p : List MemPlace}
    (hval : Value.okWide P W .any b0 t v) (h : DataW.Trod enc P W 0 (fun _ => true) true t v d p) :
    ∃ l : List UInt8, (RdB W v l ∧ l.length ≤ maxLen) ∧ (l.length = 0 ∨ ∃ elems spare, d = .slice elems spare ∧ l.length ≤ elems.length) := by
  obtain ⟨a0, len, cap, rfl⟩ := okWide_slice bt.slice hval
  obtain ⟨fuel, hf⟩ := h
  have hf' : DataW.trod enc P W 0 (fun _ => true) true fuel t [Value.slice a0 len cap] = some (d, p) := by simpa [Value.cells] using hf
  obtain ⟨l, hr, hm⟩ := open_bytes_cell bt hc1 hf'
  refine ⟨l, ⟨hr, hm⟩, ?_⟩
  obtain ⟨A, c, e1⟩ := hr.length
  injection e1 with _ e2 _
  subst e2
  rcases open_ints bt.slice bt.elem hc1 hf' with ⟨hcs, hx⟩ | ⟨a, len', cap', zs, hcs, _, hl, hm', hz, hx, _, _⟩
  · simp at hcs
    exact .inl (by simp [hcs])
  · simp at hcs
    obtain ⟨_, rfl, rfl⟩ := hcs
    injection hx with hx _
    refine .inr ⟨_, _, hx, ?_⟩
    simp at hz
    simp [lits]
    omega

/-- An act. -/
structure Pt.Act where
  kind : Int
  v : Nat
def Pt.Act.cells (a : Pt.Act) : List Value := [.int .i64 a.kind, .int .u32 a.v]
def Pt.Act.ok (a : Pt.Act) : Prop := a.v < 4294967296
theorem pact_of {H : Type} {enc : TypeId × Value → H} {w : World} {n : Nat} {cs : List Value} {y : DataW H × List MemPlace} (hl : cs.length = 2)
    (ht : DataW.trod enc Try.prog w 0 (fun _ => true) true n 49 cs = some y) : ∃ x : Pt.Act, cs = x.cells ∧ x.ok := by
  obtain ⟨m, hf⟩ := struct_fields Try.underlying49 (by kernel_rfl) (by kernel_rfl) ht hl
  obtain ⟨v0, y0, e0, h0⟩ := hf 0 _ rfl
  obtain ⟨v1, y1, e1, h1⟩ := hf 1 _ rfl
  obtain ⟨a, k0, _, w0⟩ := DataW.trod_int Try.underlying3 h0
  obtain ⟨c, k1, _, w1⟩ := DataW.trod_int Try.underlying29 h1
  simp only [List.cons.injEq, and_true] at k0 k1
  subst k0 k1
  have b1 := bounds_u32 w1
  match cs, hl with
  | [c0, c1], _ =>
    simp at e0 e1
    subst e0 e1
    exact ⟨⟨a, c.toNat⟩, by simp [Pt.Act.cells, Int.toNat_of_nonneg b1.1], by show c.toNat < _; omega⟩
set_option maxRecDepth 100000 in
theorem open_pacts {H : Type} {enc : TypeId × Value → H} {w : World} {b0 : Nat} {v : Value} {d : DataW H} {p : List MemPlace}
    (hv : Value.okWide Try.prog w .any b0 44 v) (h : DataW.Trod enc Try.prog w 0 (fun _ => true) true 44 v d p) :
    ∃ l : List Pt.Act, Rd w 2 v l.length (l.flatMap Pt.Act.cells) ∧ (∀ x ∈ l, x.ok) ∧ l.length ≤ maxLen :=
  have hC : Try.prog.cellsOf 49 = 2 := by kernel_rfl
  open_rows (spare := fun _ => true) Pt.Act.cells 2 (by decide) (fun _ => rfl) Pt.Act.ok Try.underlying44 hC (fun _ => rfl) (fun n cs y hl ht => pact_of hl ht) hv h

/-- The cells of the j-th act. -/
theorem pact_cells {w : World} {v : Value} {l : List Pt.Act} (h : Rd w 2 v l.length (l.flatMap Pt.Act.cells)) {B : Option Addr} {n d : Nat} (hv : v = .slice B n d) (hn : l.length = n) :
    ∃ g off, (0 < n → B = some ⟨g, off, none⟩) ∧ ∀ W', Below w.heap.size w W' → ∀ j, j < n → W'.cell? ⟨g, off + j * 2, none⟩ = some (.int .i64 (l.getD j ⟨0, 0⟩).kind) ∧ W'.cell? ⟨g, off + j * 2 + 1, none⟩ = some (.int .u32 (l.getD j ⟨0, 0⟩).v) := by
  subst hn
  obtain ⟨hl, A, c, e, _, _, hc⟩ := h
  rw [e] at hv
  injection hv with hv _ _
  subst hv
  by_cases h0 : 0 < l.length
  · obtain ⟨g, off, rfl, hg, hcell⟩ := hc h0
    refine ⟨g, off, fun _ => rfl, fun W' hb j hj => ?_⟩
    have hat := fun i (hi : i < 2) => (flat_at Pt.Act.cells 2 (fun _ => rfl) l j i ⟨0, 0⟩ hj hi)
    refine ⟨?_, ?_⟩
    · refine (hb.cell (p := ⟨g, off + j * 2, none⟩) hg).trans (hcell (j * 2) _ ?_)
      have := hat 0 (by omega)
      simpa [Pt.Act.cells] using this
    · refine (hb.cell (p := ⟨g, off + j * 2 + 1, none⟩) hg).trans ?_
      rw [Nat.add_assoc]
      refine hcell (j * 2 + 1) _ ?_
      have := hat 1 (by omega)
      simpa [Pt.Act.cells] using this
  · exact ⟨0, 0, fun h => absurd h h0, fun W' _ j hj => by omega⟩
end Go.Proofs.Ytfffkfcemajcpaa
