/- The walk of the law LinesBack. -/
import Derived.Test.YtbkgpnilodjdiaaDoorL6BackP
namespace Go.Proofs.YtbkgpnilodjdiaaDoor
open Go.RowKit Kit
set_option linter.unusedVariables false
set_option linter.unusedSimpArgs false

theorem L6.print_all {ls : List L6.Line} (h : ¬ (L6.print ls).2 = 1) : (∀ x ∈ ls, L6.right x = true) ∧ L6.print ls = (L6.text ls, 0) := by
  unfold L6.print at h ⊢
  split
  · rename_i ha
    exact ⟨fun x hx => List.all_eq_true.1 ha x hx, rfl⟩
  · rename_i ha
    rw [if_neg ha] at h
    exact absurd rfl h
theorem L6.print_two (ls : List L6.Line) : (L6.print ls).2 = 1 ∨ ((∀ x ∈ ls, L6.right x = true) ∧ L6.print ls = (L6.text ls, 0)) := by
  by_cases h : (L6.print ls).2 = 1
  · exact .inl h
  · exact .inr (L6.print_all h)
theorem rsame_self (a b : Value) (ls : List L6.Line) (W : World) (h : RdL W a ls) (h' : RdL W b ls) (hl : ls.length ≤ 1000000000) (hf : ∀ x ∈ ls, x.fits) : Calls Tryd.prog 14 #[a, b] W fun e w' => e = .returned (.bool true) ∧ Below W.heap.size W w' :=
  (rSame_any a b ls ls W h h' hl hl hf hf).mono fun e w' hh => ⟨hh.1.trans (by simp), hh.2⟩
set_option maxRecDepth 100000 in
set_option maxHeartbeats 4000000 in
theorem core_linesBack (v : Value) (ls : List L6.Line) (w : World) (h : RdL w v ls) (hs : L6.Small ls) : Calls Tryd.prog 6 #[v] w fun e w' => e = .returned (.bool true) ∧ Below w.heap.size w w' := by
  have CK := Lib.hid (fun W => lknows_any W)
  have CL := Lib.hid (llight_any v ls w h hs)
  have HH := Lib.hid h
  obtain ⟨A, c, rfl⟩ := h.form
  clear h hs
  go_enter Tryd.func6, Tryd.ntmps6
  go_wp2_with (go_at_call 21; refine CL.out.mono ?_)
  rintro e w0 ⟨b, rfl, hwt, hb0⟩
  have HB0 := Lib.hid hb0
  clear hb0
  cases b
  · go_wp2_with (go_at_call 11; refine (CK.out _).mono ?_; rintro e w1 ⟨rfl, hb1⟩)
    go_ret
    exact ⟨rfl, HB0.out.trans (hb1.mono HB0.out.size)⟩
  · have hW := hwt rfl
    have HW := Lib.hid (show L6.weight ls ≤ 100000000 from by omega)
    have HLL := Lib.hid (show ls.length ≤ 750 from by have := L6.weight_len ls; omega)
    have HFIT := Lib.hid (show ∀ x ∈ ls, x.fits from fun x hx => (L6.few_of (Nat.le_trans (L6.weight_mem hx) HW.out)).fits)
    have HTXL := Lib.hid (show (L6.text ls).length ≤ 6000 from by have := L6.text_len ls; omega)
    have CO := Lib.hid (fun W (hb : Below w.heap.size w W) => lown_any (.slice A ls.length c) ls W (HH.out.kept hb) (by have := HLL.out; omega) HFIT.out)
    have CP := Lib.hid (fun v W (h : RdL W v ls) => lprint_any v ls W h HW.out)
    clear hW hwt
    rcases L6.print_two ls with hp | ⟨hall, hp⟩
    · rw [hp] at CP
      generalize (L6.print ls).1 = TX at *
      clear hp
      go_wp2_with (first | (go_at_call 23; refine (CO.out _ HB0.out).mono ?_; rintro e w1 ⟨v1, rfl, hv1, hb1⟩; have HV1 := Lib.hid hv1; have HB1 := Lib.hid (HB0.out.trans (hb1.mono HB0.out.size)); obtain ⟨A1, c1, rfl⟩ := hv1.form; clear hv1 hb1) | (go_at_call 22; refine (CP.out _ _ HV1.out).mono ?_; rintro e w2 ⟨rfl, hb2⟩; have HB2 := Lib.hid (HB1.out.trans (hb2.mono HB1.out.size)); clear hb2) | (go_at_call 16; refine (lnum_any _ _).mono ?_; rintro e w' ⟨rfl, rfl⟩) | (go_at_call 11; refine (CK.out _).mono ?_; rintro e w9 ⟨rfl, hb9⟩))
      go_ret
      exact ⟨rfl, HB2.out.trans (hb9.mono HB2.out.size)⟩
    · rw [hp] at CP
      have CQ := Lib.hid (fun W => lparse_any (L6.text ls) W (by have := HTXL.out; omega))
      unfold ParsePost at CQ
      have HPB := L6.parse_back hall (by have := HLL.out; omega)
      clear hp hall
      generalize L6.text ls = TX at *
      rcases HPB with ⟨m, hm⟩ | hm
      · rw [hm] at CQ
        have hpos : (0 : Int) < ((m + 1 : Nat) : Int) := by omega
        generalize m + 1 = n at *
        clear hm
        go_wp2_with (first | (go_at_call 23; refine (CO.out _ HB0.out).mono ?_; rintro e w1 ⟨v1, rfl, hv1, hb1⟩; have HV1 := Lib.hid hv1; have HB1 := Lib.hid (HB0.out.trans (hb1.mono HB0.out.size)); obtain ⟨A1, c1, rfl⟩ := hv1.form; clear hv1 hb1) | (go_at_call 22; refine (CP.out _ _ HV1.out).mono ?_; rintro e w2 ⟨rfl, hb2⟩; have HB2 := Lib.hid (HB1.out.trans (hb2.mono HB1.out.size)); clear hb2) | (go_at_call 12; refine (CQ.out _).mono ?_; rintro e w3 ⟨v3, rfl, hv3, hb3⟩; have HB3 := Lib.hid (HB2.out.trans (hb3.mono HB2.out.size)); clear hb3) | (go_at_call 16; refine (lnum_any _ _).mono ?_; rintro e w' ⟨rfl, rfl⟩) | (go_at_call 11; refine (CK.out _).mono ?_; rintro e w9 ⟨rfl, hb9⟩))
        go_ret
        exact ⟨rfl, HB3.out.trans (hb9.mono HB3.out.size)⟩
      · rw [hm] at CQ
        have CR := Lib.hid (fun v W (h : RdL W v ls) => lref_any v ls W h (by have := HLL.out; omega) HFIT.out)
        have CS := Lib.hid (fun a b W (h : RdL W a ls) (h' : RdL W b ls) => rsame_self a b ls W h h' (by have := HLL.out; omega) HFIT.out)
        clear hm
        go_wp2_with (first | (go_at_call 23; refine (CO.out _ HB0.out).mono ?_; rintro e w1 ⟨v1, rfl, hv1, hb1⟩; have HV1 := Lib.hid hv1; have HB1 := Lib.hid (HB0.out.trans (hb1.mono HB0.out.size)); obtain ⟨A1, c1, rfl⟩ := hv1.form; clear hv1 hb1) | (go_at_call 22; refine (CP.out _ _ HV1.out).mono ?_; rintro e w2 ⟨rfl, hb2⟩; have HB2 := Lib.hid (HB1.out.trans (hb2.mono HB1.out.size)); clear hb2) | (go_at_call 12; refine (CQ.out _).mono ?_; rintro e w3 ⟨v3, rfl, hv3, hb3⟩; have HB3 := Lib.hid (HB2.out.trans (hb3.mono HB2.out.size)); have HV3 := Lib.hid hv3.rd; obtain ⟨A3, c3, rfl⟩ := hv3.form; clear hv3 hb3) | (go_at_call 15; refine (CR.out _ _ HV3.out).mono ?_; rintro e w4 ⟨v4, rfl, hv4, hb4⟩; have HB4 := Lib.hid (HB3.out.trans (hb4.mono HB3.out.size)); have HV4 := Lib.hid hv4; clear hv4 hb4) | (go_at_call 14; refine (CS.out _ _ _ HV4.out (HH.out.kept HB4.out)).mono ?_; rintro e w5 ⟨rfl, hb5⟩; have HB5 := Lib.hid (HB4.out.trans (hb5.mono HB4.out.size)); clear hb5) | (go_at_call 16; refine (lnum_any _ _).mono ?_; rintro e w' ⟨rfl, rfl⟩) | (go_at_call 11; refine (CK.out _).mono ?_; rintro e w9 ⟨rfl, hb9⟩))
        go_ret
        exact ⟨rfl, HB5.out.trans (hb9.mono HB5.out.size)⟩
theorem walk_linesBack (v : Value) (ls : List L6.Line) (w : World) (h : RdL w v ls ∧ L6.Small ls) : Calls Tryd.prog 6 #[v] w fun e w' => e = .returned (.bool true) ∧ Below w.heap.size w w' := core_linesBack v ls w h.1 h.2
end Go.Proofs.YtbkgpnilodjdiaaDoor
