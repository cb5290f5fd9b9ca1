/- Heads that come in, opened. -/
import Derived.Test.YtfffkfcemajcpaaNmMem
import Derived.Lib.SmallJoins
import Derived.ProofKit
import Derived.OpenShut
import Derived.ShutString
import Derived.ChangeOld
namespace Go.Proofs.Ytfffkfcemajcpaa
open Go.RowKit Kit
set_option linter.unusedVariables false
set_option linter.unusedSimpArgs false

section
open Go.Joins Go.ChangeShapes Go.WideShapes Go.Deep
variable {H : Type} {enc : TypeId × Value → H} {P : Program} {w : World} {base : Nat} {spare : Nat → Bool} {held : Bool}
theorem open_agg5 {r : Reach} {b0 : Nat} {t : TypeId} {f0 f1 f2 f3 f4 : Field} {v : Value} {d : DataW H} {p : List MemPlace} (hs : P.underlying t = some (.struct #[f0, f1, f2, f3, f4])) (hone : oneCellFields P #[f0, f1, f2, f3, f4] = true) (hC : P.cellsOf t = 5)
    (hv : Value.okWide P w r b0 t v) (h : DataW.Trod enc P w base spare held t v d p) :
    ∃ (v0 v1 v2 v3 v4 : Value) (y0 y1 y2 y3 y4 : DataW H × List MemPlace) (n : Nat), v = .agg #[v0, v1, v2, v3, v4] ∧
      DataW.trod enc P w base spare held n f0.type [v0] = some y0 ∧ DataW.trod enc P w base spare held n f1.type [v1] = some y1 ∧ DataW.trod enc P w base spare held n f2.type [v2] = some y2 ∧ DataW.trod enc P w base spare held n f3.type [v3] = some y3 ∧ DataW.trod enc P w base spare held n f4.type [v4] = some y4 := by
  obtain ⟨cs, rfl, hsz⟩ := okWide_struct hs hv
  obtain ⟨l⟩ := cs
  match l, hsz.trans hC with
  | [c0, c1, c2, c3, c4], _ =>
    obtain ⟨fuel, hf⟩ := h
    obtain ⟨xs, n, _, hx, _, hlen, hg⟩ := DataW.trod_struct hs hf
    obtain ⟨o0, k0⟩ := hone_of hone 0 f0 rfl
    obtain ⟨o1, k1⟩ := hone_of hone 1 f1 rfl
    obtain ⟨o2, k2⟩ := hone_of hone 2 f2 rfl
    obtain ⟨o3, k3⟩ := hone_of hone 3 f3 rfl
    obtain ⟨o4, k4⟩ := hone_of hone 4 f4 rfl
    match xs, hlen with
    | [y0, y1, y2, y3, y4], _ =>
      exact ⟨c0, c1, c2, c3, c4, y0, y1, y2, y3, y4, n, rfl, by simpa [Value.cells, o0, k0] using hg 0 f0 rfl, by simpa [Value.cells, o1, k1] using hg 1 f1 rfl, by simpa [Value.cells, o2, k2] using hg 2 f2 rfl, by simpa [Value.cells, o3, k3] using hg 3 f3 rfl, by simpa [Value.cells, o4, k4] using hg 4 f4 rfl⟩
end

/-- A head that came in. -/
structure HeadV where
  s : ByteArray
  fl : Int
  a : Nat
  b : Nat
  c : Nat
abbrev HeadV.v (h : HeadV) : Value := hv h.s h.fl h.a h.b h.c
structure HeadV.ok (h : HeadV) : Prop where
  s : h.s.size ≤ maxLen
  fl : -9223372036854775808 ≤ h.fl ∧ h.fl ≤ 9223372036854775807
  a : h.a < 4294967296
  b : h.b < 4294967296
  c : h.c < 4294967296


section
open Go.ChangeShapes Go.WideShapes
theorem u32_nat {n : Int} (h : (Lit.int .u32 n).wf = true) : ∃ m : Nat, n = m ∧ m < 4294967296 := by
  have := bounds_u32 h
  exact ⟨n.toNat, by omega, by omega⟩
theorem open_head {H : Type} {enc : TypeId × Value → H} {w : World} {r : Reach} {b0 : Nat} {v : Value} {d : DataW H} {p : List MemPlace}
    (hv0 : Value.okWide Try.prog w r b0 38 v) (h : DataW.Trod enc Try.prog w 0 (fun _ => true) true 38 v d p) : ∃ x : HeadV, v = x.v ∧ x.ok := by
  obtain ⟨v0, v1, v2, v3, v4, y0, y1, y2, y3, y4, n, rfl, h0, h1, h2, h3, h4⟩ := open_agg5 Try.underlying38 (by kernel_rfl) (by kernel_rfl) hv0 h
  obtain ⟨s, e0, _, ws⟩ := DataW.trod_string Try.underlying9 h0
  obtain ⟨fl, e1, _, w1⟩ := DataW.trod_int Try.underlying3 h1
  obtain ⟨a, e2, _, w2⟩ := DataW.trod_int Try.underlying29 h2
  obtain ⟨b, e3, _, w3⟩ := DataW.trod_int Try.underlying29 h3
  obtain ⟨c, e4, _, w4⟩ := DataW.trod_int Try.underlying29 h4
  simp only [List.cons.injEq, and_true] at e0 e1 e2 e3 e4
  obtain ⟨a', rfl, ha⟩ := u32_nat w2
  obtain ⟨b', rfl, hb⟩ := u32_nat w3
  obtain ⟨c', rfl, hc⟩ := u32_nat w4
  subst e0 e1 e2 e3 e4
  exact ⟨⟨s, fl, a', b', c'⟩, rfl, ⟨ws, bounds_i64 w1, ha, hb, hc⟩⟩
end

end Go.Proofs.Ytfffkfcemajcpaa
