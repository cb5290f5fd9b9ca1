/- The walk of the law LinesPrints. -/
import Derived.Test.YtbkgpnilodjdiaaDoorL6Light
import Derived.Deep.RegionHeld3
namespace Go.Proofs.YtbkgpnilodjdiaaDoor
open Go.RowKit Kit
set_option linter.unusedVariables false
set_option linter.unusedSimpArgs false

set_option maxRecDepth 100000 in
set_option maxHeartbeats 4000000 in
theorem core_linesPrints (v : Value) (ls : List L6.Line) (w : World) (h : RdL w v ls) (hs : L6.Small ls) : Calls Tryd.prog 5 #[v] w fun e w' => e = .returned (.bool true) ∧ Below w.heap.size w w' := by
  have CK := Lib.hid (fun W => lknows_any W)
  have CL := Lib.hid (llight_any v ls w h hs)
  have HH := Lib.hid h
  obtain ⟨A, c, rfl⟩ := h.form
  clear h hs
  go_enter Tryd.func5, Tryd.ntmps5
  go_wp2_with (go_at_call 21; refine CL.out.mono ?_)
  rintro e w0 ⟨b, rfl, hwt, hb0⟩
  have HB0 := Lib.hid hb0
  clear hb0
  cases b
  · go_wp2_with (go_at_call 11; refine (CK.out _).mono ?_; rintro e w1 ⟨rfl, hb1⟩)
    go_ret
    exact ⟨rfl, HB0.out.trans (hb1.mono HB0.out.size)⟩
  · have hW := hwt rfl
    have HW := Lib.hid (show L6.weight ls ≤ 100000000 from by omega)
    have HLL := Lib.hid (show ls.length ≤ 100000000 from by have := L6.weight_len ls; omega)
    have HFEW := Lib.hid (show ∀ x ∈ ls, x.Few from fun x hx => L6.few_of (Nat.le_trans (L6.weight_mem hx) HW.out))
    have CO := Lib.hid (fun W (hb : Below w.heap.size w W) => lown_any (.slice A ls.length c) ls W (HH.out.kept hb) (by have := HLL.out; omega) (fun x hx => (HFEW.out x hx).fits))
    have CP := Lib.hid (fun v W (h : RdL W v ls) => lprint_any v ls W h HW.out)
    have CQ := Lib.hid (fun W (hb : Below w.heap.size w W) => rprint_any (.slice A ls.length c) ls W (HH.out.kept hb) HW.out)
    clear hW hwt
    generalize (L6.print ls).1 = TX at *
    generalize (L6.print ls).2 = N at *
    go_wp2_with (first | (go_at_call 23; refine (CO.out _ HB0.out).mono ?_; rintro e w1 ⟨v1, rfl, hv1, hb1⟩; have HV1 := Lib.hid hv1; have HB1 := Lib.hid (HB0.out.trans (hb1.mono HB0.out.size)); obtain ⟨A1, c1, rfl⟩ := hv1.form; clear hv1 hb1) | (go_at_call 22; refine (CP.out _ _ HV1.out).mono ?_; rintro e w2 ⟨rfl, hb2⟩; have HB2 := Lib.hid (HB1.out.trans (hb2.mono HB1.out.size)); clear hb2) | (go_at_call 24; refine (CQ.out _ HB2.out).mono ?_; rintro e w3 ⟨rfl, hb3⟩; have HB3 := Lib.hid (HB2.out.trans (hb3.mono HB2.out.size)); clear hb3))
    go_loopw [7] (fun i wr => ∃ k : Nat, i = .int .i64 (k : Int) ∧ k ≤ ls.length ∧ Below w.heap.size w wr) (fun i _ => match i with | .int _ n => ls.length - n.toNat | _ => 0)
    case atStart => exact ⟨0, rfl, Nat.zero_le _, HB3.out⟩
    case round =>
      obtain ⟨k, rfl, hk, hbr⟩ := hrel
      have HBR := Lib.hid hbr
      clear hbr
      by_cases hlt : k < ls.length
      · have hlt' : (k : Int) < (ls.length : Int) := by omega
        have hwk : IntKind.i64.wrap ((k : Int) + 1) = (k : Int) + 1 := by have := HLL.out; rw [IntKind.wrap_i64]; omega
        obtain ⟨g, off, c', vl, va, e, hg, c0, c1, c2, r1, r2⟩ := HH.out.at hlt
        injection e with e1 e2 e3
        subst e1 e3
        have HC : Hid (∀ W', Below w.heap.size w W' → W'.cell? ⟨g, off + k * 3, none⟩ = some vl ∧ W'.cell? ⟨g, off + k * 3 + 1, none⟩ = some (.string ⟨(ls[k]).word.toArray⟩) ∧ W'.cell? ⟨g, off + k * 3 + 2, none⟩ = some va) :=
          Lib.hid fun W' hb => ⟨(hb.cell (p := ⟨g, _, none⟩) hg).trans c0, (hb.cell (p := ⟨g, _, none⟩) hg).trans c1, (hb.cell (p := ⟨g, _, none⟩) hg).trans c2⟩
        have HFX := Lib.hid (HFEW.out _ (List.getElem_mem hlt))
        have HR1 := Lib.hid r1
        have HR2 := Lib.hid r2
        obtain ⟨X, hX⟩ : ∃ X, ls[k] = X := ⟨_, rfl⟩
        rw [hX] at HC HFX HR1 HR2
        have HX := Lib.hid hX
        clear c0 c1 c2 r1 r2 hX
        obtain ⟨xl, xw, xa⟩ := X
        dsimp only at HC HR1 HR2
        obtain ⟨B1, cc1, rfl⟩ := HR1.out.form
        obtain ⟨B2, cc2, rfl⟩ := HR2.out.form
        go_wp2_with fail
        refine wp_region_held_drew (S := fun W' => W'.cell? ⟨g, off + k * 3, none⟩ = some (.slice B1 xl.length cc1) ∧ W'.cell? ⟨g, off + k * 3 + 1, none⟩ = some (.string ⟨xw.toArray⟩) ∧ W'.cell? ⟨g, off + k * 3 + 2, none⟩ = some (.slice B2 xa.length cc2)) (by kernel_rfl) (HC.out _ HBR.out.drew) (fun hHeld => ?_)
        refine wpAnyH_take (i := 0) (v := ?_) rfl (by kernel_rfl) (by kernel_rfl) (by kernel_rfl) (fun _ _ _ h => h) (Or.inl ⟨by rfl, ?_⟩) (by assumption) ?_
        rotate_left
        · (intro w hSw; (try dsimp only at hSw); simp only [List.getElem_toArray, List.getElem_cons_zero, List.getElem_cons_succ]; go_simp; (try with_reducible rfl))
        try simp only [Act.put, List.getElem_toArray, List.getElem_cons_zero, List.getElem_cons_succ, List.setIfInBounds_toArray, List.set_cons_zero, List.set_cons_succ]
        refine wpAnyH_take (i := 2) (v := ?_) rfl (by kernel_rfl) (by kernel_rfl) (by kernel_rfl) (fun _ _ _ h => h) (Or.inl ⟨by rfl, ?_⟩) (by assumption) ?_
        rotate_left
        · (intro w hSw; (try dsimp only at hSw); simp only [List.getElem_toArray, List.getElem_cons_zero, List.getElem_cons_succ]; go_simp; (try with_reducible rfl))
        try simp only [Act.put, List.getElem_toArray, List.getElem_cons_zero, List.getElem_cons_succ, List.setIfInBounds_toArray, List.set_cons_zero, List.set_cons_succ]
        refine wpAnyH_take (i := 6) (v := ?_) rfl (by kernel_rfl) (by kernel_rfl) (by kernel_rfl) (fun _ _ _ h => h) (Or.inl ⟨by rfl, ?_⟩) (by assumption) ?_
        rotate_left
        · (intro w hSw; (try dsimp only at hSw); simp only [List.getElem_toArray, List.getElem_cons_zero, List.getElem_cons_succ]; go_simp; (try with_reducible rfl))
        try simp only [Act.put, List.getElem_toArray, List.getElem_cons_zero, List.getElem_cons_succ, List.setIfInBounds_toArray, List.set_cons_zero, List.set_cons_succ]
        refine wpAnyH_take (i := 7) (v := ?_) rfl (by kernel_rfl) (by kernel_rfl) (by kernel_rfl) (fun _ _ _ h => h) (Or.inl ⟨by rfl, ?_⟩) (by assumption) ?_
        rotate_left
        · (intro w hSw; (try dsimp only at hSw); simp only [List.getElem_toArray, List.getElem_cons_zero, List.getElem_cons_succ]; go_simp; (try with_reducible rfl))
        try simp only [Act.put, List.getElem_toArray, List.getElem_cons_zero, List.getElem_cons_succ, List.setIfInBounds_toArray, List.set_cons_zero, List.set_cons_succ]
        refine wpAnyH_take (i := 8) (v := ?_) rfl (by kernel_rfl) (by kernel_rfl) (by kernel_rfl) (fun _ _ _ h => h) (Or.inl ⟨by rfl, ?_⟩) (by assumption) ?_
        rotate_left
        · (intro w hSw; (try dsimp only at hSw); simp only [List.getElem_toArray, List.getElem_cons_zero, List.getElem_cons_succ]; go_simp; (try with_reducible rfl))
        try simp only [Act.put, List.getElem_toArray, List.getElem_cons_zero, List.getElem_cons_succ, List.setIfInBounds_toArray, List.set_cons_zero, List.set_cons_succ]
        refine wpAnyH_take (i := 9) (v := ?_) rfl (by kernel_rfl) (by kernel_rfl) (by kernel_rfl) (fun _ _ _ h => h) (Or.inl ⟨by rfl, ?_⟩) (by assumption) ?_
        rotate_left
        · (intro w hSw; (try dsimp only at hSw); simp only [List.getElem_toArray, List.getElem_cons_zero, List.getElem_cons_succ]; go_simp; (try with_reducible rfl))
        try simp only [Act.put, List.getElem_toArray, List.getElem_cons_zero, List.getElem_cons_succ, List.setIfInBounds_toArray, List.set_cons_zero, List.set_cons_succ]
        refine wpAnyH_ready (rs := [1]) (by kernel_rfl) (by simp) ?_
        refine AllReadyH.cons rfl (fun K hK => ?_) AllReadyH.nil
        simp only [List.getElem_toArray, List.getElem_cons_zero, List.getElem_cons_succ]
        rw [if_pos (by rfl)]
        go_simp
        go_at_call 23
        refine (CO.out _ HBR.out.drew).mono ?_
        rintro e w1 ⟨v1, rfl, hv1, hb1⟩
        have HV1 := Lib.hid hv1
        obtain ⟨A1, d1, rfl⟩ := hv1.form
        have H1 := Lib.hid (HBR.out.drew.trans (hb1.mono HBR.out.drew.size))
        obtain ⟨g1, o1, d1', ul, ua, e1, hg1, m0, m1, m2, R1, R2⟩ := hv1.at hlt
        injection e1 with e1 e2 e3
        subst e1 e3
        rw [HX.out] at m1 R1 R2
        obtain ⟨F1, f1, rfl⟩ := R1.form
        obtain ⟨F2, f2, rfl⟩ := R2.form
        have HR1' := Lib.hid R1
        have HR2' := Lib.hid R2
        clear hv1 R1 R2
        go_simp
        refine hK.out _ _ (HC.out _ H1.out) (fun hHeld => ?_)
        clear hK K
        try simp only [Act.put, List.getElem_toArray, List.getElem_cons_zero, List.getElem_cons_succ, List.setIfInBounds_toArray, List.set_cons_zero, List.set_cons_succ]
        refine wpAnyH_take (i := 3) (v := ?_) rfl (by kernel_rfl) (by kernel_rfl) (by kernel_rfl) (fun _ _ _ h => h) (Or.inl ⟨by rfl, ?_⟩) (by assumption) ?_
        rotate_left
        · (intro w hSw; (try dsimp only at hSw); simp only [List.getElem_toArray, List.getElem_cons_zero, List.getElem_cons_succ]; go_simp; (try with_reducible rfl))
        try simp only [Act.put, List.getElem_toArray, List.getElem_cons_zero, List.getElem_cons_succ, List.setIfInBounds_toArray, List.set_cons_zero, List.set_cons_succ]
        refine wpAnyH_ready (rs := [4]) (by kernel_rfl) (by simp) ?_
        refine AllReadyH.cons rfl (fun K hK => ?_) AllReadyH.nil
        simp only [List.getElem_toArray, List.getElem_cons_zero, List.getElem_cons_succ]
        rw [if_pos (by rfl)]
        go_simp
        refine hK.out _ _ (HC.out _ H1.out) (fun hHeld => ?_)
        clear hK K
        try simp only [Act.put, List.getElem_toArray, List.getElem_cons_zero, List.getElem_cons_succ, List.setIfInBounds_toArray, List.set_cons_zero, List.set_cons_succ]
        refine wpAnyH_ready (rs := [5]) (by kernel_rfl) (by simp) ?_
        refine AllReadyH.cons rfl (fun K hK => ?_) AllReadyH.nil
        simp only [List.getElem_toArray, List.getElem_cons_zero, List.getElem_cons_succ]
        rw [if_pos (by rfl)]
        go_simp
        go_at_call 25
        refine (lright_any _ _ ⟨xl, xw, xa⟩ _ HR1'.out HR2'.out HFX.out).mono ?_
        rintro e w2 ⟨rfl, hb2⟩
        have H2 := Lib.hid (H1.out.trans (hb2.mono H1.out.size))
        go_simp
        refine hK.out _ _ (HC.out _ H2.out) (fun hHeld => ?_)
        clear hK K
        try simp only [Act.put, List.getElem_toArray, List.getElem_cons_zero, List.getElem_cons_succ, List.setIfInBounds_toArray, List.set_cons_zero, List.set_cons_succ]
        refine wpAnyH_ready (rs := [10]) (by kernel_rfl) (by simp) ?_
        refine AllReadyH.cons rfl (fun K hK => ?_) AllReadyH.nil
        simp only [List.getElem_toArray, List.getElem_cons_zero, List.getElem_cons_succ]
        rw [if_pos (by rfl)]
        go_simp
        go_at_call 26
        refine (rright_any _ _ ⟨xl, xw, xa⟩ _ (HR1.out.kept H2.out) (HR2.out.kept H2.out) HFX.out).mono ?_
        rintro e w3 ⟨rfl, hb3⟩
        have H3 := Lib.hid (H2.out.trans (hb3.mono H2.out.size))
        go_simp
        refine hK.out _ _ (HC.out _ H3.out) (fun hHeld => ?_)
        clear hK K
        try simp only [Act.put, List.getElem_toArray, List.getElem_cons_zero, List.getElem_cons_succ, List.setIfInBounds_toArray, List.set_cons_zero, List.set_cons_succ]
        refine wpAnyH_take (i := 11) (v := ?_) rfl (by kernel_rfl) (by kernel_rfl) (by kernel_rfl) (fun _ _ _ h => h) (Or.inl ⟨by rfl, ?_⟩) (by assumption) ?_
        rotate_left
        · (intro w hSw; (try dsimp only at hSw); simp only [List.getElem_toArray, List.getElem_cons_zero, List.getElem_cons_succ]; go_simp; (try with_reducible rfl))
        try simp only [Act.put, List.getElem_toArray, List.getElem_cons_zero, List.getElem_cons_succ, List.setIfInBounds_toArray, List.set_cons_zero, List.set_cons_succ]
        refine wpAnyH_done (by kernel_rfl) ?_ _
        go_wp2_with fail
        go_roundw
        case rel => exact ⟨k + 1, by simp, hlt, H3.out⟩
        case measure => simp; omega
      · have hle : (ls.length : Int) ≤ (k : Int) := by omega
        go_wp2_with (first | (go_at_call 16; refine (lnum_any _ _).mono ?_; rintro e w' ⟨rfl, rfl⟩) | (go_at_call 11; refine (CK.out _).mono ?_; rintro e w9 ⟨rfl, hb9⟩))
        go_ret
        exact ⟨rfl, HBR.out.trans (hb9.mono HBR.out.size)⟩
theorem walk_linesPrints (v : Value) (ls : List L6.Line) (w : World) (h : RdL w v ls ∧ L6.Small ls) : Calls Tryd.prog 5 #[v] w fun e w' => e = .returned (.bool true) ∧ Below w.heap.size w w' := core_linesPrints v ls w h.1 h.2
end Go.Proofs.YtbkgpnilodjdiaaDoor
