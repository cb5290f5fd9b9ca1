/- Holes and acts that come in. -/
import Derived.Test.YtijekhdndegdaaaKitS
import Derived.Test.YtijekhdndegdaaaMmLaws
namespace Go.Proofs.Ytijekhdndegdaaa
open Go.RowKit Kit Go.ChangeShapes Go.WideShapes Go.Deep
set_option linter.unusedVariables false
set_option linter.unusedSimpArgs false

def Mm.SmallH (h : Nat × Nat) : Prop := h.1 < 4294967296 ∧ h.2 < 4294967296
set_option maxRecDepth 100000 in
theorem open_holes {H : Type} {enc : TypeId × Value → H} {w : World} {b0 : Nat} {v : Value} {d : DataW H} {p : List MemPlace}
    (hv : Value.okWide Try.prog w .any b0 22 v) (h : DataW.Trod enc Try.prog w 0 (fun _ => true) true 22 v d p) :
    ∃ hs : List (Nat × Nat), Rd w 2 v hs.length (Mm.hc hs) ∧ (∀ x ∈ hs, Mm.SmallH x) ∧ hs.length ≤ maxLen := by
  have hC : Try.prog.cellsOf 99 = 2 := by kernel_rfl
  refine open_rows (spare := fun _ => true) (fun h : Nat × Nat => [.int .u32 h.1, .int .u32 h.2]) 2 (by decide) (fun _ => rfl) Mm.SmallH Try.underlying22 hC (fun _ => rfl) ?_ hv h
  intro n cs y hl ht
  obtain ⟨m, hf⟩ := struct_fields Try.underlying99 (by kernel_rfl) (by kernel_rfl) ht hl
  obtain ⟨v0, y0, e0, h0⟩ := hf 0 _ rfl
  obtain ⟨v1, y1, e1, h1⟩ := hf 1 _ rfl
  obtain ⟨a, k0, _, w0⟩ := DataW.trod_int Try.underlying23 h0
  obtain ⟨b, k1, _, w1⟩ := DataW.trod_int Try.underlying23 h1
  simp only [List.cons.injEq, and_true] at k0 k1
  subst k0 k1
  have b0 := bounds_u32 w0
  have b1 := bounds_u32 w1
  match cs, hl with
  | [c0, c1], _ =>
    simp at e0 e1
    subst e0 e1
    refine ⟨(a.toNat, b.toNat), ?_, ?_, ?_⟩
    · simp [Int.toNat_of_nonneg b0.1, Int.toNat_of_nonneg b1.1]
    · show a.toNat < _; omega
    · show b.toNat < _; omega

/-- An act. -/
structure Mm.Act where
  kind : Int
  n : Int
  at_ : Nat
  v : Nat
  bv : Value
  b : List UInt8
def Mm.Act.cells (a : Mm.Act) : List Value := [.int .i64 a.kind, .int .i64 a.n, .int .u32 a.at_, .int .u32 a.v, a.bv]
def Mm.Act.ok (w : World) (a : Mm.Act) : Prop := a.at_ < 4294967296 ∧ a.v < 4294967296 ∧ RdB w a.bv a.b ∧ a.b.length ≤ maxLen ∧ -9223372036854775808 ≤ a.n ∧ a.n ≤ 9223372036854775807
theorem act_of {H : Type} {enc : TypeId × Value → H} {w : World} {n : Nat} {cs : List Value} {y : DataW H × List MemPlace} (hl : cs.length = 5)
    (ht : DataW.trod enc Try.prog w 0 (fun _ => true) true n 61 cs = some y) : ∃ x : Mm.Act, cs = x.cells ∧ x.ok w := by
  obtain ⟨m, hf⟩ := struct_fields Try.underlying61 (by kernel_rfl) (by kernel_rfl) ht hl
  obtain ⟨v0, y0, e0, h0⟩ := hf 0 _ rfl
  obtain ⟨v1, y1, e1, h1⟩ := hf 1 _ rfl
  obtain ⟨v2, y2, e2, h2⟩ := hf 2 _ rfl
  obtain ⟨v3, y3, e3, h3⟩ := hf 3 _ rfl
  obtain ⟨v4, y4, e4, h4⟩ := hf 4 _ rfl
  obtain ⟨a, k0, _, w0⟩ := DataW.trod_int Try.underlying3 h0
  obtain ⟨b, k1, _, w1⟩ := DataW.trod_int Try.underlying3 h1
  obtain ⟨c, k2, _, w2⟩ := DataW.trod_int Try.underlying23 h2
  obtain ⟨d, k3, _, w3⟩ := DataW.trod_int Try.underlying23 h3
  obtain ⟨l, hb, hbm⟩ := open_bytes_cell mbt (by kernel_rfl) h4
  simp only [List.cons.injEq, and_true] at k0 k1 k2 k3
  subst k0 k1 k2 k3
  have b2 := bounds_u32 w2
  have b3 := bounds_u32 w3
  have b1 := bounds_i64 w1
  match cs, hl with
  | [c0, c1, c2, c3, c4], _ =>
    simp at e0 e1 e2 e3 e4
    subst e0 e1 e2 e3 e4
    exact ⟨⟨a, b, c.toNat, d.toNat, c4, l⟩, by simp [Mm.Act.cells, Int.toNat_of_nonneg b2.1, Int.toNat_of_nonneg b3.1], by show c.toNat < _; omega, by show d.toNat < _; omega, hb, hbm, b1⟩
set_option maxRecDepth 100000 in
theorem open_act {H : Type} {enc : TypeId × Value → H} {w : World} {b0 : Nat} {v : Value} {d : DataW H} {p : List MemPlace}
    (hv : Value.okWide Try.prog w .any b0 61 v) (h : DataW.Trod enc Try.prog w 0 (fun _ => true) true 61 v d p) :
    ∃ x : Mm.Act, v = .agg x.cells.toArray ∧ x.ok w := by
  obtain ⟨cs, rfl, hsz⟩ := okWide_struct Try.underlying61 hv
  obtain ⟨fuel, hf⟩ := h
  have hC : Try.prog.cellsOf 61 = 5 := by kernel_rfl
  obtain ⟨x, hx, ho⟩ := act_of (by rw [Array.length_toList]; exact hsz.trans hC) (by simpa [Value.cells] using hf)
  exact ⟨x, by rw [← hx], ho⟩
set_option maxRecDepth 100000 in
theorem open_acts {H : Type} {enc : TypeId × Value → H} {w : World} {b0 : Nat} {v : Value} {d : DataW H} {p : List MemPlace}
    (hv : Value.okWide Try.prog w .any b0 55 v) (h : DataW.Trod enc Try.prog w 0 (fun _ => true) true 55 v d p) :
    ∃ l : List Mm.Act, Rd w 5 v l.length (l.flatMap Mm.Act.cells) ∧ (∀ x ∈ l, x.ok w) ∧ l.length ≤ maxLen :=
  have hC : Try.prog.cellsOf 61 = 5 := by kernel_rfl
  open_rows (spare := fun _ => true) Mm.Act.cells 5 (by decide) (fun _ => rfl) (Mm.Act.ok w) Try.underlying55 hC (fun _ => rfl) (fun n cs y hl ht => act_of hl ht) hv h
end Go.Proofs.Ytijekhdndegdaaa
