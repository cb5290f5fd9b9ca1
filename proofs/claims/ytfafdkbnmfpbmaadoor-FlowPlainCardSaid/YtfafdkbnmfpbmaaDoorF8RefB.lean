/- Flow, the document's side: branch. -/
import Derived.Test.YtfafdkbnmfpbmaaDoorF8RefO
import Derived.Deep.RegionHeld3
namespace Go.Proofs.YtfafdkbnmfpbmaaDoor
open Go.RowKit Kit
set_option linter.unusedVariables false
set_option linter.unusedSimpArgs false

theorem F8.Z.below_via {W0 W w2 : World} (h : Below W0.heap.size W0 W) (hb : Below W.heap.size W w2) : Below W0.heap.size W0 w2 := h.trans (hb.mono h.size)
set_option maxRecDepth 100000 in
set_option maxHeartbeats 4000000 in
theorem rbranch_any {B gm H : Nat} {S : F8.St} (w : World) (h : F8.MkR B w gm H S) (vl va : Value) (s : ByteArray) (x : L6.Line) (tt : List UInt8) (hl : F8.Z false B w vl x.labels) (ha : F8.Z false B w va x.args) (h3 : x.args.length = 3) (ho : S.out.length ≤ 100000) :
    Calls Tryd.prog 72 #[.pointer (some ⟨gm, 0, none⟩), .agg #[vl, .string s, va], .string ⟨tt.toArray⟩] w fun e w' => e = .returned (.tuple #[]) ∧ F8.MkR B w' gm w'.heap.size ⟨S.out ++ [F8.br x tt], S.opn, S.made⟩ ∧ F8.Stay gm B w w' := by
  obtain ⟨xl, xw, xa⟩ := x
  dsimp only at hl ha h3 ⊢
  obtain ⟨A1, c1, rfl⟩ := hl.form
  obtain ⟨g, off, ca, rfl, hg, a0, a1, a2⟩ := F8.three' ha.rd h3
  obtain ⟨w1, hw1⟩ : ∃ w1, w.alloc (.cells #[.slice A1 xl.length c1, .string s, .slice (some ⟨g, off, none⟩) 3 ca] 41) = w1 := ⟨_, rfl⟩
  have hbe : Below w.heap.size w w1 := by rw [← hw1]; exact (Below.refl _ _).alloc (Nat.le_refl _) _
  have hbl : Bk w1 w.heap.size 41 #[.slice A1 xl.length c1, .string s, .slice (some ⟨g, off, none⟩) 3 ca] := by rw [← hw1]; exact Bk.fresh w _ _
  have CO := Lib.hid (fun W => ropp_any (xa.getD 1 []) W)
  have HBR := Lib.hid (show F8.br ⟨xl, xw, xa⟩ tt = ⟨xl, 98 :: (F8.opp (xa.getD 1 [])).getD [], [xa.getD 0 [], xa.getD 2 [], tt]⟩ from rfl)
  have hol := F8.opp_len' (xa.getD 1 [])
  have HM1 := Lib.hid (h.kept hbe)
  have HST1 := Lib.hid (F8.Stay.of (gm := gm) hbe h.size h.lt)
  have HL1 := Lib.hid (hl.stay (F8.Stay.of (gm := gm) hbe h.size h.lt))
  have HO := Lib.hid ho
  have hg1 : g < w1.heap.size := Nat.lt_of_lt_of_le hg hbe.size
  have hst := F8.Stay.of (gm := gm) hbe h.size h.lt
  have HA := Lib.hid (fun W (hs : F8.Stay gm B w1 W) => show W.cell? ⟨g, off, none⟩ = some (.string ⟨(xa.getD 0 []).toArray⟩) ∧ W.cell? ⟨g, off + 2, none⟩ = some (.string ⟨(xa.getD 2 []).toArray⟩) ∧ W.cell? ⟨w.heap.size, 0, none⟩ = some (.slice A1 xl.length c1) ∧ W.cell? ⟨w.heap.size, 2, none⟩ = some (.slice (some ⟨g, off, none⟩) 3 ca) from by
    obtain ⟨g', off', c', e, hg', q0, q1, q2⟩ := F8.three' ((ha.stay hst).stay hs).rd h3
    injection e with e1 e2 e3
    injection e1 with e1
    injection e1 with e1 e2
    subst e1 e2
    have hk := (hs.bk hbl (h.free hbe (Nat.le_refl _))).1
    exact ⟨q0, q2, hk.cell 0, hk.cell 2⟩)
  have z1 : w1.cell? ⟨g, off + 1, none⟩ = some (.string ⟨(xa.getD 1 []).toArray⟩) := (hbe.cell (p := ⟨g, off + 1, none⟩) hg).trans a1
  have z2 := hbl.cell 2
  clear h hl ha ho hbe hbl a0 a1 a2 hg hg1 h3 hst
  generalize xa.getD 0 [] = y0 at *
  generalize xa.getD 1 [] = y1 at *
  generalize xa.getD 2 [] = y2 at *
  generalize (F8.opp y1).getD [] = o at *
  generalize (F8.opp y1).isSome = ob at *
  have hlen : ¬ 9223372036854775807 < 1 + o.length := by omega
  go_enter Tryd.func72, Tryd.ntmps72
  go_wp2_with (go_at_call 15; refine (CO.out _).mono ?_; rintro e w2 ⟨rfl, hb2⟩)
  have HS2 := Lib.hid (F8.Stay.of (gm := gm) hb2.drew HM1.out.size HM1.out.lt)
  have HB2 := Lib.hid hb2
  clear hb2 z1 z2
  have HAL := Lib.hid (show ∀ W, Below w1.heap.size w1 W → Below w1.heap.size w1 (W.alloc (.cells #[.string ⟨y0.toArray⟩, .string ⟨y2.toArray⟩, .string ⟨tt.toArray⟩] 9)) from fun W hW => hW.alloc hW.size _)
  have CP := Lib.hid (fun W (hW : Below w1.heap.size w1 W) => rput_any (S := S) (W.alloc (.cells #[.string ⟨y0.toArray⟩, .string ⟨y2.toArray⟩, .string ⟨tt.toArray⟩] 9)) (HM1.out.kept (HAL.out W hW)) (.slice A1 xl.length c1) (.slice (some ⟨W.heap.size, 0, none⟩) 3 3) ⟨xl, 98 :: o, [y0, y2, tt]⟩ (HL1.out.stay (F8.Stay.of (gm := gm) (HAL.out W hW) HM1.out.size HM1.out.lt))
    (.inl (.inl (F8.own_of_bk' (l := [y0, y2, tt]) (Bk.fresh W _ _) (Nat.le_trans HM1.out.size hW.size) (by unfold maxLen; simp)))) HO.out)
  have HS3 := Lib.hid (F8.Stay.of (gm := gm) (HAL.out _ HB2.out.drew) HM1.out.size HM1.out.lt)
  have HS3b := Lib.hid (F8.Stay.of (gm := gm) (HAL.out _ HB2.out) HM1.out.size HM1.out.lt)
  have HS3c := Lib.hid (F8.Stay.of (gm := gm) (HAL.out _ HB2.out).drew HM1.out.size HM1.out.lt)
  go_region_held3 (fun W' => W'.cell? ⟨g, off, none⟩ = some (.string ⟨y0.toArray⟩) ∧ W'.cell? ⟨g, off + 2, none⟩ = some (.string ⟨y2.toArray⟩) ∧ W'.cell? ⟨w.heap.size, 0, none⟩ = some (.slice A1 xl.length c1) ∧ W'.cell? ⟨w.heap.size, 2, none⟩ = some (.slice (some ⟨g, off, none⟩) 3 ca))
    (first | with_reducible exact HA.out _ HS5.out | with_reducible exact HA.out _ HS2.out | with_reducible exact HA.out _ HS3.out | with_reducible exact HA.out _ HS3b.out | with_reducible exact HA.out _ HS3c.out | go_keep)
    ((go_at_call 75; rw [F8.cat_b']; refine (CP.out _ HB2.out.drew).mono ?_; rintro e w5 ⟨rfl, hm5, hs5⟩; have HS5 := Lib.hid (HS3.out.trans hs5); have HM5 := Lib.hid hm5; clear hm5 hs5))
  all_goals go_wp2_with fail
  all_goals go_end0
  all_goals exact ⟨rfl, by rw [HBR.out]; exact HM5.out, HST1.out.trans HS5.out⟩
end Go.Proofs.YtfafdkbnmfpbmaaDoor
