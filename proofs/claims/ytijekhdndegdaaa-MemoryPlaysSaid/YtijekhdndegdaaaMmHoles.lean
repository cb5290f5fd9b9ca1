/- The walk of Holes: the document's holes as the program's. -/
import Derived.Test.YtijekhdndegdaaaMmLaws
import Derived.Test.YtijekhdndegdaaaKitS
namespace Go.Proofs.Ytijekhdndegdaaa
open Go.RowKit Kit
set_option linter.unusedVariables false
set_option linter.unusedSimpArgs false

theorem Mm.hc_snoc (hs : List (Nat × Nat)) (j : Nat) (hj : j < hs.length) : Mm.hc (hs.take (j + 1)) = Mm.hc (hs.take j) ++ [.int .u32 (hs.getD j (0, 0)).1, .int .u32 (hs.getD j (0, 0)).2] := by
  rw [List.take_succ_eq_append_getElem hj]
  simp only [Mm.hc, List.flatMap_append, List.flatMap_cons, List.flatMap_nil, List.append_nil, List.getD_eq_getElem?_getD, List.getElem?_eq_getElem hj, Option.getD_some]

set_option maxRecDepth 20000 in
set_option maxHeartbeats 1000000 in
theorem holes_any (w : World) (A : Option Addr) (c : Nat) (hs : List (Nat × Nat)) (h : Rd w 2 (.slice A hs.length c) hs.length (Mm.hc hs)) (few : hs.length ≤ 30) :
    Calls Try.prog 20 #[.slice A hs.length c] w fun e w' => ∃ v', e = .returned v' ∧ w'.ownsRow w.heap.size 95 2 v' hs.length (Mm.hc hs) ∧ Below w.heap.size w w' := by
  have HH := Lib.hid (fun W (hb : Below w.heap.size w W) (j : Nat) (hj : j < hs.length) => Rd.pair (h.kept hb) hj)
  have few' : (hs.length : Int) ≤ 30 := by omega
  clear h
  go_enter Try.func20, Try.ntmps20
  go_wp2_with fail
  go_loopw [3, 4] (fun out i wr => ∃ j : Nat, j ≤ hs.length ∧ i = .int .i64 j ∧ wr.ownsRow w.heap.size 95 2 out j (Mm.hc (hs.take j)) ∧ Below w.heap.size w wr) (fun _ i _ => hs.length - (intOf i).toNat)
  case atStart => exact ⟨0, Nat.zero_le _, rfl, World.ownsRow_nil _ _ _ _, Below.refl _ _⟩
  case round =>
    obtain ⟨j, hj, rfl, hown, hbr⟩ := hrel
    by_cases hlt : j < hs.length
    · obtain ⟨g, off, hA, c0, c1⟩ := HH.out wr hbr j hlt
      subst hA
      have HB := Lib.hid hbr
      have hz := hbr.size
      have HO := Lib.hid hown
      have HS := Lib.hid (Mm.hc_snoc hs j hlt)
      have HF := Lib.hid (fun W (hb : Below w.heap.size w W) => by
        obtain ⟨g', off', hA, c0, c1⟩ := HH.out W hb j hlt
        simp only [Option.some.injEq, Addr.mk.injEq] at hA
        obtain ⟨rfl, rfl, -⟩ := hA
        exact (⟨c0, c1⟩ : W.cell? ⟨g, off + j * 2, none⟩ = some (.int .u32 (hs.getD j (0, 0)).1) ∧ W.cell? ⟨g, off + j * 2 + 1, none⟩ = some (.int .u32 (hs.getD j (0, 0)).2)))
      clear hbr hown
      generalize hs.getD j (0, 0) = hh at *
      obtain ⟨p, q⟩ := hh
      dsimp only at c0 c1 HS HF
      have hj0 : (0 : Int) ≤ (j : Int) := by omega
      have hj1 : (j : Int) < (hs.length : Int) := by omega
      generalize Mm.hc (hs.take j) = xs at *
      go_wp2_with fail
      have HBA := Lib.hid (HB.out.alloc hz (.cells #[.int .u32 (p : Int), .int .u32 (q : Int)] 95))
      have HSRC := Lib.hid (fun W (hb : Bk W wr.heap.size 95 #[.int .u32 (p : Int), .int .u32 (q : Int)]) => Rd.src mrt (Rd.built (size := 2) hb rfl) (by intro u hu; simp at hu; rcases hu with rfl | rfl <;> rfl))
      have HOA := Lib.hid (fun W (hb : Below wr.heap.size wr W) => (show W.ownsRow w.heap.size 95 2 u3 j xs from own_kept HO.out hb))
      go_region_held3 (fun W' => W'.cell? ⟨g, off + j * 2, none⟩ = some (.int .u32 (p : Int)) ∧ W'.cell? ⟨g, off + j * 2 + 1, none⟩ = some (.int .u32 (q : Int))) (first | with_reducible exact HF.out _ hb3' | go_keep)
        ((refine step_appendR (by rfl) (.tmp 11) (.tmp 23) 29 29 (by rfl) mrt (by decide) w.heap.size _ (by rfl) j xs (HOA.out _ ((Below.refl _ _).alloc (Nat.le_refl _) _).drew) _ (by rfl) 1 _ (HSRC.out _ (Bk.fresh _ _ _)) (by omega) (by unfold maxLen; omega) (by simp; omega) ?_; intro v3 w3 ho3 hb3 _; have hb3' := HBA.out.drew.trans hb3))
      go_wp2_with fail
      go_roundw
      case rel => exact ⟨j + 1, by omega, by go_num, by rw [HS.out]; exact ho3, hb3'⟩
      case measure => simp [intOf]; omega
    · obtain rfl : j = hs.length := by omega
      go_wp2_with fail
      go_ret
      rw [List.take_of_length_le (Nat.le_refl _)] at hown
      exact ⟨_, rfl, hown, hbr⟩
end Go.Proofs.Ytijekhdndegdaaa
