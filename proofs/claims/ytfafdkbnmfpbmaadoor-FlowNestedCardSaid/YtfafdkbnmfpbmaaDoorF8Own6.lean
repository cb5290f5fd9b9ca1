/- Flow, the program's side: clone, right. -/
import Derived.Test.YtfafdkbnmfpbmaaDoorF8Own3
namespace Go.Proofs.YtfafdkbnmfpbmaaDoor
open Go.RowKit Kit
set_option linter.unusedVariables false
set_option linter.unusedSimpArgs false

theorem F8.below_via {W0 W w2 : World} (h : Below W0.heap.size W0 W) (hb : Below W.heap.size W w2) : Below W0.heap.size W0 w2 := h.trans (hb.mono h.size)
theorem F8.clone_fin {w W0 w4 : World} {T : Array Value} {xl xa : List (List UInt8)} {v2 v4 : Value} (hb4 : Bk w4 (w.heap.size + 1) 42 T) (ho2 : w4.ownsRow W0.drew.heap.size 9 1 v2 xl.length (L6.sv xl)) (ho4 : w4.ownsRow W0.heap.size 9 1 v4 xa.length (L6.sv xa)) (hbe : Below w.heap.size w W0) (hb : Below W0.heap.size W0 w4) (u u' u2 : Value) :
    OwnS w.heap.size (((w4.setCell ⟨w.heap.size + 1, 0, none⟩ u).setCell ⟨w.heap.size + 1, 1, none⟩ u').setCell ⟨w.heap.size + 1, 2, none⟩ u2) v2 xl ∧ OwnS w.heap.size (((w4.setCell ⟨w.heap.size + 1, 0, none⟩ u).setCell ⟨w.heap.size + 1, 1, none⟩ u').setCell ⟨w.heap.size + 1, 2, none⟩ u2) v4 xa ∧ Below w.heap.size w (((w4.setCell ⟨w.heap.size + 1, 0, none⟩ u).setCell ⟨w.heap.size + 1, 1, none⟩ u').setCell ⟨w.heap.size + 1, 2, none⟩ u2) := by
  have hle : w.heap.size ≤ W0.heap.size := hbe.size
  have hbut := ((But.setCell w4 (w.heap.size + 1) 0 u).trans (But.setCell _ _ 1 u')).trans (But.setCell _ _ 2 u2)
  refine ⟨own_rebase (own_but ho2 hb4 (by decide) hbut) hle, own_rebase (own_but ho4 hb4 (by decide) hbut) hle, ?_⟩
  exact (hbe.trans (hb.mono hle)).trans (hbut.below (Nat.le_succ _) (Nat.le_trans hle hb.size))
/-- A copied line. -/
def F8.ClonePost (w : World) (x : L6.Line) (e : Ending) (w' : World) : Prop := ∃ vl va, e = .returned (.agg #[vl, .string ⟨x.word.toArray⟩, va]) ∧ OwnS w.heap.size w' vl x.labels ∧ OwnS w.heap.size w' va x.args ∧ (∀ k, F8.blk vl = some k → F8.blk va ≠ some k) ∧ Below w.heap.size w w'
set_option maxRecDepth 100000 in
set_option maxHeartbeats 4000000 in
theorem fclone_any (vl va : Value) (x : L6.Line) (w : World) (hl : RdS w vl x.labels) (ha : RdS w va x.args) (h1 : x.labels.length ≤ 1000000) (h2 : x.args.length ≤ 1000000) :
    Calls Tryd.prog 31 #[.agg #[vl, .string ⟨x.word.toArray⟩, va]] w (F8.ClonePost w x) := by
  obtain ⟨xl, xw, xa⟩ := x
  dsimp only at hl ha h1 h2 ⊢
  obtain ⟨A1, c1, rfl⟩ := hl.form
  obtain ⟨A2, c2, rfl⟩ := ha.form
  obtain ⟨W0, hW0⟩ : ∃ W0, (w.alloc (.cells #[.slice A1 xl.length c1, .string ⟨xw.toArray⟩, .slice A2 xa.length c2] 42)).alloc (.cells #[.slice none 0 0, .string ⟨#[]⟩, .slice none 0 0] 42) = W0 := ⟨_, rfl⟩
  have hbe : Below w.heap.size w W0 := by rw [← hW0]; exact ((Below.refl _ _).alloc (Nat.le_refl _) _).alloc (by simp) _
  have hsz : W0.heap.size = w.heap.size + 2 := by rw [← hW0]; simp
  have hbl : Bk W0 w.heap.size 42 #[.slice A1 xl.length c1, .string ⟨xw.toArray⟩, .slice A2 xa.length c2] := by rw [← hW0]; exact (Bk.fresh w _ _).kept ((Below.refl _ _).alloc (Nat.le_refl _) _)
  have hbr : Bk W0 (w.heap.size + 1) 42 #[.slice none 0 0, .string ⟨#[]⟩, .slice none 0 0] := by
    rw [← hW0]; have := Bk.fresh (w.alloc (.cells #[.slice A1 xl.length c1, .string ⟨xw.toArray⟩, .slice A2 xa.length c2] 42)) 42 #[.slice none 0 0, .string ⟨#[]⟩, .slice none 0 0]; rw [World.size_alloc] at this; exact this
  have HC := Lib.hid (fun W (hW : Below W0.heap.size W0 W) => show W.cell? ⟨w.heap.size, 0, none⟩ = some (.slice A1 xl.length c1) ∧ W.cell? ⟨w.heap.size, 1, none⟩ = some (.string ⟨xw.toArray⟩) ∧ W.cell? ⟨w.heap.size, 2, none⟩ = some (.slice A2 xa.length c2) ∧
    W.cell? ⟨w.heap.size + 1, 0, none⟩ = some (.slice none 0 0) ∧ W.cell? ⟨w.heap.size + 1, 1, none⟩ = some (.string ⟨#[]⟩) ∧ W.cell? ⟨w.heap.size + 1, 2, none⟩ = some (.slice none 0 0) ∧ W.frozen? ⟨w.heap.size + 1, 0, none⟩ = false ∧ W.frozen? ⟨w.heap.size + 1, 1, none⟩ = false ∧ W.frozen? ⟨w.heap.size + 1, 2, none⟩ = false from
    ⟨(hbl.kept hW).cell 0, (hbl.kept hW).cell 1, (hbl.kept hW).cell 2, (hbr.kept hW).cell 0, (hbr.kept hW).cell 1, (hbr.kept hW).cell 2, (hbr.kept hW).free 0, (hbr.kept hW).free 1, (hbr.kept hW).free 2⟩)
  have hl0 := hl.kept hbe
  have ha0 := ha.kept hbe
  have CL := Lib.hid (fun W (hW : Below W0.heap.size W0 W) => lclone_any (.slice A1 xl.length c1) xl W (hl0.kept hW) (by omega))
  have CA := Lib.hid (fun W (hW : Below W0.heap.size W0 W) => lclone_any (.slice A2 xa.length c2) xa W (ha0.kept hW) (by omega))
  have HBE := Lib.hid hbe
  have HSZ := Lib.hid hsz
  have HBR := Lib.hid hbr
  clear hl ha hl0 ha0 hbe hsz hbl hbr h1 h2
  generalize xl.length = n1 at *
  generalize xa.length = n2 at *
  go_enter Tryd.func31, Tryd.ntmps31
  go_wp2_with fail
  obtain ⟨k0, k1, k2, k3, k4, k5, k6, k7, k8⟩ := HC.out _ (Below.refl _ _)
  go_region_held3 (fun W' => W'.cell? ⟨w.heap.size, 0, none⟩ = some (.slice A1 n1 c1) ∧ W'.cell? ⟨w.heap.size, 1, none⟩ = some (.string ⟨xw.toArray⟩) ∧ W'.cell? ⟨w.heap.size, 2, none⟩ = some (.slice A2 n2 c2))
    (first | with_reducible exact HKEEP2.out | with_reducible exact HKEEP1.out | go_keep)
    (first
      | ((go_at_call 61; with_reducible refine (CL.out _ (Below.refl _ _).drew).mono ?_; rintro e w2 ⟨v2, rfl, hv2, hb2⟩; have HB2 := Lib.hid (show Below W0.heap.size W0 w2 from F8.below_via (W0 := W0) (Below.refl _ _).drew hb2); have HKEEP1 := Lib.hid (show w2.cell? ⟨w.heap.size, 0, none⟩ = some (.slice A1 n1 c1) ∧ w2.cell? ⟨w.heap.size, 1, none⟩ = some (.string ⟨xw.toArray⟩) ∧ w2.cell? ⟨w.heap.size, 2, none⟩ = some (.slice A2 n2 c2) from ⟨(HC.out _ HB2.out).1, (HC.out _ HB2.out).2.1, (HC.out _ HB2.out).2.2.1⟩); have HV2 := Lib.hid hv2; obtain ⟨A3, c3, rfl⟩ := hv2.form; clear hv2 hb2))
      | ((go_at_call 61; with_reducible refine (CA.out _ HB2.out).mono ?_; rintro e w4 ⟨v4, rfl, hv4, hb4⟩; have HB4 := Lib.hid (show Below W0.heap.size W0 w4 from F8.below_via (W0 := W0) HB2.out hb4); have HKEEP2 := Lib.hid (show w4.cell? ⟨w.heap.size, 0, none⟩ = some (.slice A1 n1 c1) ∧ w4.cell? ⟨w.heap.size, 1, none⟩ = some (.string ⟨xw.toArray⟩) ∧ w4.cell? ⟨w.heap.size, 2, none⟩ = some (.slice A2 n2 c2) from ⟨(HC.out _ HB4.out).1, (HC.out _ HB4.out).2.1, (HC.out _ HB4.out).2.2.1⟩); have HV4 := Lib.hid hv4; obtain ⟨A4, c4, rfl⟩ := hv4.form; obtain ⟨j0, j1, j2, j3, j4, j5, j6, j7, j8⟩ := HC.out _ HB4.out; have HK4 := Lib.hid hb4; clear hv4 hb4)))
  all_goals go_wp2_with fail
  all_goals refine bodyPost_ret (v := .agg #[.slice A3 xl.length c3, .string ⟨xw.toArray⟩, .slice A4 xa.length c4]) (by simp [results, Tryd.results31, go_sem, j3, j4, j5]) rfl ?_
  all_goals obtain ⟨g1, g2, g3⟩ := F8.clone_fin (xl := xl) (xa := xa) (HBR.out.kept HB4.out) (own_kept HV2.out HK4.out) (own_rebase HV4.out HB2.out.size) HBE.out HB4.out (.slice A3 xl.length c3) (.string ⟨xw.toArray⟩) (.slice A4 xa.length c4)
  all_goals refine ⟨_, _, rfl, g1, g2, fun k hk e => ?_, g3⟩
  all_goals have q1 := (OwnZ.blk_lt (.inl HV2.out) hk).2
  all_goals have q2 := (OwnZ.blk_lt (.inl HV4.out) e).1
  all_goals omega
end Go.Proofs.YtfafdkbnmfpbmaaDoor
