/- Walks: Clone, New. -/
import Derived.Test.YtijekhdndegdaaaMmBytes
import Derived.Deep.RegionWith
namespace Go.Proofs.Ytijekhdndegdaaa
open Go.RowKit Kit
set_option linter.unusedVariables false
set_option linter.unusedSimpArgs false

/-- A new object out of a new row and holes. -/
theorem OwnM.make {w : World} {g cap : Nat} {b : List UInt8} {hs : List (Nat × Nat)} {hv : Value} (B : Nat) (hrw : Rw w g 5 cap b) (hcm : cap ≤ maxLen) (hrd : Rd w 2 hv hs.length (Mm.hc hs)) (hoff : Off hv g)
    (lo : 4 ≤ b.length) (hi : b.length ≤ 1048576) (few : hs.length ≤ 16) (small : ∀ j, j < hs.length → (hs.getD j (0, 0)).1 < 4294967296 ∧ (hs.getD j (0, 0)).2 < 4294967296) :
    OwnM (w.alloc (.cells #[.slice (some ⟨g, 0, none⟩) b.length cap, hv] 68)) w.heap.size g b hs :=
  have hb := (Below.refl w.heap.size w).alloc (Nat.le_refl _) (.cells #[.slice (some ⟨g, 0, none⟩) b.length cap, hv] 68)
  ⟨⟨hv, cap, Bk.fresh _ _ _, hrw.kept hb, hcm, hrd.kept hb, hoff⟩, lo, hi, few, small⟩

/-- What a maker answers: a new memory. -/
def Mm.Made (b : List UInt8) (hs : List (Nat × Nat)) (w : World) (v : Value) (w' : World) : Prop := ∃ gm gb, v = .pointer (some ⟨gm, 0, none⟩) ∧ OwnM w' gm gb b hs ∧ w.heap.size ≤ gm ∧ w.heap.size ≤ gb ∧ Below w.heap.size w w' ∧
  (∀ g, g < w.heap.size → OffM w' 68 gm g)

theorem Rd.off {w : World} {size n g : Nat} {v : Value} {xs : List Value} (h : Rd w size v n xs) (hg : w.heap.size ≤ g) : Off v g := by
  obtain ⟨_, A, c, rfl, _, _, h4⟩ := h
  intro k off n' c' e hn e2
  injection e with e1 e3
  subst e3
  obtain ⟨g', off', hA, hlt, _⟩ := h4 hn
  rw [hA] at e1
  injection e1 with e1
  injection e1 with e1
  omega
theorem Mm.made {w w' : World} {g cap : Nat} {b : List UInt8} {hs : List (Nat × Nat)} {hv : Value} (hrw : Rw w' g 5 cap b) (hcm : cap ≤ maxLen) (hrd : Rd w' 2 hv hs.length (Mm.hc hs)) (hoff : Off hv g)
    (lo : 4 ≤ b.length) (hi : b.length ≤ 1048576) (few : hs.length ≤ 16) (small : ∀ j, j < hs.length → (hs.getD j (0, 0)).1 < 4294967296 ∧ (hs.getD j (0, 0)).2 < 4294967296)
    (hg : w.heap.size ≤ g) (ho : ∀ g', g' < w.heap.size → Off hv g') (hb : Below w.heap.size w w') :
    Mm.Made b hs w (.pointer (some ⟨w'.heap.size, 0, none⟩)) (w'.alloc (.cells #[.slice (some ⟨g, 0, none⟩) b.length cap, hv] 68)) := by
  refine ⟨w'.heap.size, g, rfl, OwnM.make 0 hrw hcm hrd hoff lo hi few small, hb.size, hg, hb.alloc hb.size _, fun g' hg' x' hv' hbk => ?_⟩
  have := (hbk.uniq (Bk.fresh w' _ _)).2
  simp at this
  rw [this.2]
  exact ho g' hg'

theorem clone_own (w : World) (gm gb : Nat) (b : List UInt8) (hs : List (Nat × Nat)) (h : OwnM w gm gb b hs) :
    Calls Try.prog 45 #[.pointer (some ⟨gm, 0, none⟩)] w fun e w' => ∃ v, e = .returned v ∧ Mm.Made b hs w v w' := by
  obtain ⟨hv, cap, h1, h2, h3, h4, h5⟩ := h.obj
  have c0 : w.cell? ⟨gm, 0, none⟩ = some (.slice (some ⟨gb, 0, none⟩) b.length cap) := h1.cell 0
  have hgm := h1.lt
  have hN := Lib.hid (none_own w gm gb _ _ c0)
  have HB := Lib.hid (show ∀ W, Below w.heap.size w W → Calls Try.prog 72 #[.slice (some ⟨gb, 0, none⟩) b.length cap] W fun e w' => ∃ g cap', e = .returned (.slice (some ⟨g, 0, none⟩) b.length cap') ∧ W.heap.size ≤ g ∧ cap' ≤ maxLen ∧ Rw w' g 5 cap' b ∧ Below W.heap.size W w' ∧ Below w.heap.size w w' from fun W hb => by
    have hr := (h2.kept hb).part 0 b.length cap (by omega) h2.le h3
    rw [List.drop_zero, List.take_of_length_le (Nat.le_refl _)] at hr
    refine (cloneB W ⟨gb, 0, none⟩ b.length cap b hr (by have := h.hi; omega)).mono ?_
    rintro e w' ⟨v', rfl, ho, hb'⟩
    obtain ⟨g, cap', rfl, k1, k2, k3⟩ := OwnB.rw ho (by have := h.lo; omega)
    exact ⟨g, cap', rfl, k1, k2, k3, hb', hb.trans (hb'.mono hb.size)⟩)
  have HH := Lib.hid (show ∀ W, Below w.heap.size w W → Calls Try.prog 68 #[hv] W fun e w' => ∃ A' c', e = .returned (.slice A' hs.length c') ∧ Rd w' 2 (.slice A' hs.length c') hs.length (Mm.hc hs) ∧ (∀ g, g < W.heap.size → Off (.slice A' hs.length c') g) ∧ Below W.heap.size W w' ∧ Below w.heap.size w w' from fun W hb =>
    (cloneH W hv hs.length (Mm.hc hs) (h4.kept hb) h.few (Mm.hc_one hs)).mono fun e w' ⟨v', k1, k2, k3, k4⟩ => by
      obtain ⟨A', c', rfl⟩ := k2.form
      exact ⟨A', c', k1, k2, k3, k4, hb.trans (k4.mono hb.size)⟩)
  have HC := Lib.hid (show ∀ W, Below w.heap.size w W → W.cell? ⟨gm, 0, none⟩ = some (.slice (some ⟨gb, 0, none⟩) b.length cap) ∧ W.cell? ⟨gm, 1, none⟩ = some hv from fun W hb =>
    ⟨(hb.cell (p := ⟨gm, 0, none⟩) hgm).trans (h1.cell 0), (hb.cell (p := ⟨gm, 1, none⟩) hgm).trans (h1.cell 1)⟩)
  obtain ⟨Ah, ch, rfl⟩ := h4.form
  have HM := Lib.hid h
  clear h h1 h2 h3 h4 h5 c0
  generalize hbl : b.length = len at *
  have HBL := Lib.hid hbl
  generalize hhl : hs.length = hl at *
  have HHL := Lib.hid hhl
  clear hbl hhl
  obtain ⟨c0, c1⟩ := HC.out w (Below.refl _ _)
  go_enter Try.func45, Try.ntmps45
  go_wp2_with (go_at_call 70; refine hN.out.mono ?_; rintro e w' ⟨rfl, rfl⟩)
  go_region_held3 (fun W' => W'.cell? ⟨gm, 0, none⟩ = some (.slice (some ⟨gb, 0, none⟩) len cap) ∧ W'.cell? ⟨gm, 1, none⟩ = some (.slice Ah hl ch)) (first | with_reducible exact HC.out _ hb3' | with_reducible exact HC.out _ hb4' | go_keep)
    (first | (go_at_call 72; refine (HB.out _ (by first | exact hb4' | exact hb4'.drew | exact (Below.refl _ _).drew)).mono ?_; rintro e wx ⟨g, cap', rfl, hg1, hg2, hg3, hb3, hb3'⟩) | (go_at_call 68; refine (HH.out _ (by first | exact hb3' | exact hb3'.drew | exact (Below.refl _ _).drew)).mono ?_; rintro e wy ⟨A', c', rfl, hr3, ho3, hb4, hb4'⟩))
  · go_wp2
    go_ret
    rw [← HBL.out, ← HHL.out] at *
    exact ⟨_, rfl, Mm.made (hg3.kept hb4) hg2 hr3 (ho3 g hg3.lt) HM.out.lo HM.out.hi HM.out.few HM.out.small hg1 (fun g' hg' => ho3 g' (Nat.lt_of_lt_of_le hg' hb3'.size)) hb4'⟩

end Go.Proofs.Ytijekhdndegdaaa
