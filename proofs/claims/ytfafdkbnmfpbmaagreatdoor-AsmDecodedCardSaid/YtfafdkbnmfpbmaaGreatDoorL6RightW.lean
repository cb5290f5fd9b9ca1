/- The walk of Right. -/
import Derived.Test.YtfafdkbnmfpbmaaGreatDoorL6Right
namespace Go.Proofs.YtfafdkbnmfpbmaaGreatDoor
open Go.RowKit Kit
set_option linter.unusedVariables false
set_option linter.unusedSimpArgs false

/-- What a list of texts may hold here. -/
def L6.Few1 (l : List (List UInt8)) : Prop := l.length ≤ 1000000000 ∧ ∀ x ∈ l, x.length ≤ 1000000000
def L6.Line.Few (x : L6.Line) : Prop := L6.Few1 x.labels ∧ x.word.length ≤ 1000000000 ∧ L6.Few1 x.args
theorem L6.Line.Few.fits {x : L6.Line} (h : x.Few) : x.fits := ⟨h.1.1, h.2.2.1⟩
/-- The cells of a line that lies in a block of its own. -/
theorem line_boxed (T : TypeId) (w : World) (vl va : Value) (s : ByteArray) : ∀ W', Below (w.heap.size + 1) (w.alloc (.cells #[vl, .string s, va] T)) W' →
    (W'.cell? ⟨w.heap.size, 0, none⟩ = some vl ∧ W'.cell? ⟨w.heap.size, 1, none⟩ = some (.string s) ∧ W'.cell? ⟨w.heap.size, 2, none⟩ = some va) ∧ Below w.heap.size w W' := fun W' hb => by
  have hk := Bk.fresh w T #[vl, .string s, va]
  have hk' := hk.below hb (Nat.lt_succ_self _)
  exact ⟨⟨hk'.cell 0, hk'.cell 1, hk'.cell 2⟩, ((Below.refl _ _).alloc (Nat.le_refl _) _).trans (hb.mono (Nat.le_succ _))⟩
theorem L6.right_labels {x : L6.Line} (h : x.labels.any (fun s => !L6.whole s) = true) : L6.right x = false := by unfold L6.right; rw [h]; rfl
theorem L6.right_quoted {x : L6.Line} (h : x.labels.any L6.quoted = true) : L6.right x = false := by unfold L6.right; rw [h]; simp
theorem L6.right_args {x : L6.Line} (h : x.args.any (fun s => !L6.whole s) = true) : L6.right x = false := by unfold L6.right; rw [h]; simp
theorem L6.right_rest {x : L6.Line} (h1 : x.labels.any (fun s => !L6.whole s) = false) (h2 : x.labels.any L6.quoted = false) (h3 : x.args.any (fun s => !L6.whole s) = false) :
    L6.right x = if x.word = [] then decide (x.args = []) else L6.whole x.word && (!L6.quoted x.word && !L6.label x.word) := by unfold L6.right; rw [h1, h2, h3]; rfl
set_option maxRecDepth 100000 in
set_option maxHeartbeats 2000000 in
theorem lright_any (vl va : Value) (x : L6.Line) (w : World) (hl : RdS w vl x.labels) (ha : RdS w va x.args) (hf : x.Few) :
    Calls Tryz.prog 59 #[.agg #[vl, .string ⟨x.word.toArray⟩, va]] w fun e w' => e = .returned (.bool (L6.right x)) ∧ Below w.heap.size w w' := by
  obtain ⟨A1, c1, rfl⟩ := hl.form
  obtain ⟨A2, c2, rfl⟩ := ha.form
  obtain ⟨w0, hw0⟩ : ∃ w0, w.alloc (.cells #[.slice A1 x.labels.length c1, .string ⟨x.word.toArray⟩, .slice A2 x.args.length c2] 50) = w0 := ⟨_, rfl⟩
  have HC := Lib.hid (line_boxed 50 w (.slice A1 x.labels.length c1) (.slice A2 x.args.length c2) ⟨x.word.toArray⟩)
  have HZ := Lib.hid (show w.heap.size + 1 ≤ (w.alloc (.cells #[.slice A1 x.labels.length c1, .string ⟨x.word.toArray⟩, .slice A2 x.args.length c2] 50)).heap.size from by simp)
  rw [hw0] at HC HZ
  have K1 := Lib.hid (show ∀ W', Below (w.heap.size + 1) w0 W' → Calls Tryz.prog 120 #[.slice A1 x.labels.length c1, .func (.func 116) #[] #[]] W' fun e w' => e = .returned (.bool (x.labels.any (fun s => !L6.whole s))) ∧ Below (w.heap.size + 1) w0 w' from fun W' hb => (lcontains_bad _ _ W' (hl.kept (HC.out _ hb).2) hf.1.1 hf.1.2).mono fun e w' hh => ⟨hh.1, hb.trans (hh.2.mono (Nat.le_trans HZ.out hb.size))⟩)
  have K2 := Lib.hid (show ∀ W', Below (w.heap.size + 1) w0 W' → Calls Tryz.prog 120 #[.slice A1 x.labels.length c1, .func (.func 118) #[] #[]] W' fun e w' => e = .returned (.bool (x.labels.any L6.quoted)) ∧ Below (w.heap.size + 1) w0 w' from fun W' hb => (lcontains_quoted _ _ W' (hl.kept (HC.out _ hb).2) hf.1.1 hf.1.2).mono fun e w' hh => ⟨hh.1, hb.trans (hh.2.mono (Nat.le_trans HZ.out hb.size))⟩)
  have K3 := Lib.hid (show ∀ W', Below (w.heap.size + 1) w0 W' → Calls Tryz.prog 120 #[.slice A2 x.args.length c2, .func (.func 116) #[] #[]] W' fun e w' => e = .returned (.bool (x.args.any (fun s => !L6.whole s))) ∧ Below (w.heap.size + 1) w0 w' from fun W' hb => (lcontains_bad _ _ W' (ha.kept (HC.out _ hb).2) hf.2.2.1 hf.2.2.2).mono fun e w' hh => ⟨hh.1, hb.trans (hh.2.mono (Nat.le_trans HZ.out hb.size))⟩)
  have KW := Lib.hid (show ∀ W', Below (w.heap.size + 1) w0 W' → Calls Tryz.prog 117 #[.string ⟨x.word.toArray⟩] W' fun e w' => e = .returned (.bool (L6.whole x.word)) ∧ Below (w.heap.size + 1) w0 w' from fun W' hb => (lwhole_any x.word W' hf.2.1).mono fun e w' hh => ⟨hh.1, hb.trans (hh.2.mono (Nat.le_trans HZ.out hb.size))⟩)
  have KQ := Lib.hid (show ∀ W', Below (w.heap.size + 1) w0 W' → Calls Tryz.prog 118 #[.string ⟨x.word.toArray⟩] W' fun e w' => e = .returned (.bool (L6.quoted x.word)) ∧ Below (w.heap.size + 1) w0 w' from fun W' hb => (lquoted_any x.word W' hf.2.1).mono fun e w' hh => ⟨hh.1, hb.trans (hh.2.mono (Nat.le_trans HZ.out hb.size))⟩)
  have KL := Lib.hid (show ∀ W', Calls Tryz.prog 121 #[.string ⟨x.word.toArray⟩] W' fun e w' => e = .returned (.bool (L6.label x.word)) ∧ W' = w' from fun W' => llabel_any x.word W' (by have := hf.2.1; unfold maxLen; omega))
  have R1 := Lib.hid (L6.right_labels (x := x))
  have R2 := Lib.hid (L6.right_quoted (x := x))
  have R3 := Lib.hid (L6.right_args (x := x))
  have R4 := Lib.hid (L6.right_rest (x := x))
  have HE : Hid (x.args = [] ↔ x.args.length = 0) := Lib.hid (by cases x.args <;> simp)
  clear hl ha hf
  generalize x.labels.any (fun s => !L6.whole s) = b1 at *
  generalize x.labels.any L6.quoted = b2 at *
  generalize x.args.any (fun s => !L6.whole s) = b3 at *
  generalize hn1 : x.labels.length = n1 at *
  generalize hn2 : x.args.length = n2 at *
  generalize hs : x.word = s at *
  clear hn1 hn2 hs
  go_enter Tryz.func59, Tryz.ntmps59
  obtain ⟨⟨q0, q1, q2⟩, _⟩ := HC.out _ (Below.refl _ _)
  cases b1
  · cases b2
    · cases b3
      · have HR := Lib.hid (R4.out rfl rfl rfl)
        clear R1 R2 R3 R4
        by_cases hw : s = []
        · subst hw
          have HR2 := Lib.hid (show L6.right x = decide (n2 = 0) from by rw [HR.out, if_pos rfl, decide_eq_decide]; exact HE.out)
          clear HR
          by_cases h0 : n2 = 0
          · subst h0
            go_wp2_with (first | (go_at_call 120; with_reducible refine (K1.out _ (Below.refl _ _)).mono ?_; rintro e w1 ⟨rfl, hx1⟩; obtain ⟨⟨p0, p1, p2⟩, hy1⟩ := HC.out _ hx1) | (go_at_call 120; with_reducible refine (K2.out _ hx1).mono ?_; rintro e w2 ⟨rfl, hx2⟩; obtain ⟨⟨r0, r1, r2⟩, hy2⟩ := HC.out _ hx2) | (go_at_call 120; with_reducible refine (K3.out _ hx2).mono ?_; rintro e w3 ⟨rfl, hx3⟩; obtain ⟨⟨s0, s1, s2⟩, hy3⟩ := HC.out _ hx3))
            go_ret
            exact ⟨lret_bool (by rw [HR2.out]; rfl), hy3⟩
          · have h0' : ((n2 : Int) == 0) = false := by rw [beq_eq_false_iff_ne]; omega
            have HR3 := Lib.hid (show L6.right x = false from by rw [HR2.out]; simpa using h0)
            clear h0
            go_wp2_with (first | (go_at_call 120; with_reducible refine (K1.out _ (Below.refl _ _)).mono ?_; rintro e w1 ⟨rfl, hx1⟩; obtain ⟨⟨p0, p1, p2⟩, hy1⟩ := HC.out _ hx1) | (go_at_call 120; with_reducible refine (K2.out _ hx1).mono ?_; rintro e w2 ⟨rfl, hx2⟩; obtain ⟨⟨r0, r1, r2⟩, hy2⟩ := HC.out _ hx2) | (go_at_call 120; with_reducible refine (K3.out _ hx2).mono ?_; rintro e w3 ⟨rfl, hx3⟩; obtain ⟨⟨s0, s1, s2⟩, hy3⟩ := HC.out _ hx3))
            go_ret
            exact ⟨lret_bool HR3.out.symm, hy3⟩
        · have hne : (s == ([] : List UInt8)) = false := by simpa using hw
          have HR2 := Lib.hid (show L6.right x = (L6.whole s && (!L6.quoted s && !L6.label s)) from by rw [HR.out, if_neg hw])
          clear HR hw
          generalize L6.whole s = bw at *
          generalize L6.quoted s = bq at *
          generalize L6.label s = bl at *
          cases bw
          · go_wp2_with (first | (go_at_call 120; with_reducible refine (K1.out _ (Below.refl _ _)).mono ?_; rintro e w1 ⟨rfl, hx1⟩; obtain ⟨⟨p0, p1, p2⟩, hy1⟩ := HC.out _ hx1) | (go_at_call 120; with_reducible refine (K2.out _ hx1).mono ?_; rintro e w2 ⟨rfl, hx2⟩; obtain ⟨⟨r0, r1, r2⟩, hy2⟩ := HC.out _ hx2) | (go_at_call 120; with_reducible refine (K3.out _ hx2).mono ?_; rintro e w3 ⟨rfl, hx3⟩; obtain ⟨⟨s0, s1, s2⟩, hy3⟩ := HC.out _ hx3) | (go_at_call 117; refine (KW.out _ hx3).mono ?_; rintro e w4 ⟨rfl, hx4⟩; obtain ⟨⟨t0, t1, t2⟩, hy4⟩ := HC.out _ hx4))
            go_ret
            exact ⟨lret_bool (by rw [HR2.out]; rfl), hy4⟩
          · cases bq
            · go_wp2_with (first | (go_at_call 120; with_reducible refine (K1.out _ (Below.refl _ _)).mono ?_; rintro e w1 ⟨rfl, hx1⟩; obtain ⟨⟨p0, p1, p2⟩, hy1⟩ := HC.out _ hx1) | (go_at_call 120; with_reducible refine (K2.out _ hx1).mono ?_; rintro e w2 ⟨rfl, hx2⟩; obtain ⟨⟨r0, r1, r2⟩, hy2⟩ := HC.out _ hx2) | (go_at_call 120; with_reducible refine (K3.out _ hx2).mono ?_; rintro e w3 ⟨rfl, hx3⟩; obtain ⟨⟨s0, s1, s2⟩, hy3⟩ := HC.out _ hx3) | (go_at_call 117; refine (KW.out _ hx3).mono ?_; rintro e w4 ⟨rfl, hx4⟩; obtain ⟨⟨t0, t1, t2⟩, hy4⟩ := HC.out _ hx4) | (go_at_call 118; refine (KQ.out _ hx4).mono ?_; rintro e w5 ⟨rfl, hx5⟩; obtain ⟨⟨v0, v1, v2⟩, hy5⟩ := HC.out _ hx5) | (go_at_call 121; refine (KL.out _).mono ?_; rintro e w6 ⟨rfl, rfl⟩))
              go_ret
              exact ⟨lret_bool (by rw [HR2.out]; rfl), hy5⟩
            · go_wp2_with (first | (go_at_call 120; with_reducible refine (K1.out _ (Below.refl _ _)).mono ?_; rintro e w1 ⟨rfl, hx1⟩; obtain ⟨⟨p0, p1, p2⟩, hy1⟩ := HC.out _ hx1) | (go_at_call 120; with_reducible refine (K2.out _ hx1).mono ?_; rintro e w2 ⟨rfl, hx2⟩; obtain ⟨⟨r0, r1, r2⟩, hy2⟩ := HC.out _ hx2) | (go_at_call 120; with_reducible refine (K3.out _ hx2).mono ?_; rintro e w3 ⟨rfl, hx3⟩; obtain ⟨⟨s0, s1, s2⟩, hy3⟩ := HC.out _ hx3) | (go_at_call 117; refine (KW.out _ hx3).mono ?_; rintro e w4 ⟨rfl, hx4⟩; obtain ⟨⟨t0, t1, t2⟩, hy4⟩ := HC.out _ hx4) | (go_at_call 118; refine (KQ.out _ hx4).mono ?_; rintro e w5 ⟨rfl, hx5⟩; obtain ⟨⟨v0, v1, v2⟩, hy5⟩ := HC.out _ hx5))
              go_ret
              exact ⟨lret_bool (by rw [HR2.out]; rfl), hy5⟩
      · have HR := Lib.hid (R3.out rfl)
        clear R1 R2 R3 R4
        go_wp2_with (first | (go_at_call 120; with_reducible refine (K1.out _ (Below.refl _ _)).mono ?_; rintro e w1 ⟨rfl, hx1⟩; obtain ⟨⟨p0, p1, p2⟩, hy1⟩ := HC.out _ hx1) | (go_at_call 120; with_reducible refine (K2.out _ hx1).mono ?_; rintro e w2 ⟨rfl, hx2⟩; obtain ⟨⟨r0, r1, r2⟩, hy2⟩ := HC.out _ hx2) | (go_at_call 120; with_reducible refine (K3.out _ hx2).mono ?_; rintro e w3 ⟨rfl, hx3⟩; obtain ⟨⟨s0, s1, s2⟩, hy3⟩ := HC.out _ hx3))
        go_ret
        exact ⟨lret_bool HR.out.symm, hy3⟩
    · have HR := Lib.hid (R2.out rfl)
      clear R1 R2 R3 R4
      go_wp2_with (first | (go_at_call 120; with_reducible refine (K1.out _ (Below.refl _ _)).mono ?_; rintro e w1 ⟨rfl, hx1⟩; obtain ⟨⟨p0, p1, p2⟩, hy1⟩ := HC.out _ hx1) | (go_at_call 120; with_reducible refine (K2.out _ hx1).mono ?_; rintro e w2 ⟨rfl, hx2⟩; obtain ⟨⟨r0, r1, r2⟩, hy2⟩ := HC.out _ hx2))
      go_ret
      exact ⟨lret_bool HR.out.symm, hy2⟩
  · have HR := Lib.hid (R1.out rfl)
    clear R1 R2 R3 R4
    go_wp2_with (go_at_call 120; with_reducible refine (K1.out _ (Below.refl _ _)).mono ?_; rintro e w1 ⟨rfl, hx1⟩; obtain ⟨⟨p0, p1, p2⟩, hy1⟩ := HC.out _ hx1)
    go_ret
    exact ⟨lret_bool HR.out.symm, hy1⟩
end Go.Proofs.YtfafdkbnmfpbmaaGreatDoor
