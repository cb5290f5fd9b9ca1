/- The walk of do: any act; two memories begun, and one cloned. -/
import Derived.Test.YtijekhdndegdaaaMmDo3
import Derived.Test.YtijekhdndegdaaaMmNil
namespace Go.Proofs.Ytijekhdndegdaaa
open Go.RowKit Kit
set_option linter.unusedVariables false
set_option linter.unusedSimpArgs false

theorem do_any (x : Mm.Act) (w0 w : World) (gm gb gr gc : Nat) (b : List UInt8) (hs : List (Nat × Nat)) (hx : x.ok w0) (h400 : x.b.length ≤ 400) (hp : PairM w w0.heap.size gm gb gr gc b hs) (hB : Below w0.heap.size w0 w) :
    Calls Try.prog 48 #[.pointer (some ⟨gm, 0, none⟩), .pointer (some ⟨gr, 0, none⟩), .agg x.cells.toArray] w (Mm.DoPost w0.heap.size gm gb gr gc hs b w) := by
  obtain ⟨kind, n, a, v, bvv, bb⟩ := x
  obtain ⟨ha, hv, hb, hbm, hn1, hn2⟩ := hx
  dsimp only at ha hv hb hbm hn1 hn2 h400
  obtain ⟨Ab, cb, rfl⟩ := hb.length
  show Calls Try.prog 48 #[.pointer (some ⟨gm, 0, none⟩), .pointer (some ⟨gr, 0, none⟩), .agg #[.int .i64 kind, .int .i64 n, .int .u32 a, .int .u32 v, .slice Ab bb.length cb]] w _
  by_cases h0 : kind = 0
  · exact do_read kind n a v Ab bb.length cb h0 ha w _ gm gb gr gc b hs hp hB.size
  by_cases h1 : kind = 1
  · exact do_write kind n a v Ab bb.length cb h1 ha hv w _ gm gb gr gc b hs hp hB.size
  by_cases h2 : kind = 2
  · exact do_bytes kind n a v Ab bb.length cb h2 ha hn1 hn2 w _ gm gb gr gc b hs hp hB.size
  by_cases h3 : kind = 3
  · exact do_put kind n a v Ab bb cb h3 ha w0 w gm gb gr gc b hs hp hB hb h400
  exact do_none kind n a v Ab bb.length cb h0 h1 h2 h3 w _ gm gb gr gc b hs hp hB.size

/-- A clone in the program's memory's place. -/
theorem PairM.clone {w w' : World} {base gm gb gr gc : Nat} {b : List UInt8} {hs : List (Nat × Nat)} {v : Value} (h : PairM w base gm gb gr gc b hs) (hm : Mm.Made b hs w v w') (hB : base ≤ w.heap.size) :
    ∃ gm' gb', v = .pointer (some ⟨gm', 0, none⟩) ∧ PairM w' base gm' gb' gr gc b hs := by
  obtain ⟨gm', gb', rfl, ho, h1, h2, hb, hoff⟩ := hm
  obtain ⟨_, _, kc, kd⟩ := h.r.ob
  have l1 := kc.lt
  have l2 := kd.lt
  exact ⟨gm', gb', rfl, ho, h.r.kept hb, by omega, hoff gc l1, (h.r.off_new3 h2).same (hb.block gr l2), by omega, h.lc⟩
theorem PairM.made {w w1 w2 : World} {base : Nat} {b : List UInt8} {hs : List (Nat × Nat)} {v v' : Value} (hm : Mm.Made b hs w v w1) (hr : Mm.MadeR b hs w1 v' w2) (hB : base ≤ w.heap.size) :
    ∃ gm gb gr gc, v = .pointer (some ⟨gm, 0, none⟩) ∧ v' = .pointer (some ⟨gr, 0, none⟩) ∧ PairM w2 base gm gb gr gc b hs ∧ Below w.heap.size w w2 := by
  obtain ⟨gm, gb, rfl, ho, h1, h2, hb, -⟩ := hm
  obtain ⟨gr, gc, rfl, hr', h3, h4, hb', hoff⟩ := hr
  obtain ⟨_, _, kc, kd⟩ := ho.ob2
  have l1 := kc.lt
  have l2 := kd.lt
  have z := hb.size
  exact ⟨gm, gb, gr, gc, rfl, rfl, ⟨ho.kept hb', hr', by omega, (ho.off_new3 h4).same (hb'.block gm l2), hoff gb l1, by omega, by omega⟩, hb.trans (hb'.mono z)⟩
theorem Mm.light_act {l : List Mm.Act} (h : Mm.lightB l = true) : l.length ≤ 50 ∧ ∀ x ∈ l, x.b.length ≤ 400 := by
  unfold Mm.lightB at h
  rw [Bool.and_eq_true, List.all_eq_true, decide_eq_true_eq] at h
  refine ⟨h.2, fun x hx => ?_⟩
  have := h.1 x (by rw [List.take_of_length_le (by omega)]; exact hx)
  simpa using this
end Go.Proofs.Ytijekhdndegdaaa
