/- The walk of the law LinesNotes. -/
import Derived.Test.YtbkgpnilodjdiaaDoorL6NotesP
namespace Go.Proofs.YtbkgpnilodjdiaaDoor
open Go.RowKit Kit
set_option linter.unusedVariables false
set_option linter.unusedSimpArgs false

theorem cat_b (t : List UInt8) (c : UInt8) : (⟨t.toArray⟩ : ByteArray) ++ (⟨#[9, 32]⟩ : ByteArray) ++ (⟨[c].toArray⟩ : ByteArray) = ⟨(t ++ [9, 32] ++ [c]).toArray⟩ := by
  rw [show (⟨t.toArray⟩ : ByteArray) ++ (⟨#[9, 32]⟩ : ByteArray) = ⟨(t ++ [9, 32]).toArray⟩ from app_eq t [9, 32], app_eq]
theorem cat_p (t note : List UInt8) : (⟨t.toArray⟩ : ByteArray) ++ (⟨#[32, 9, 47, 47, 32]⟩ : ByteArray) ++ (⟨note.toArray⟩ : ByteArray) = ⟨(t ++ [32, 9, 47, 47, 32] ++ note).toArray⟩ := by
  rw [show (⟨t.toArray⟩ : ByteArray) ++ (⟨#[32, 9, 47, 47, 32]⟩ : ByteArray) = ⟨(t ++ [32, 9, 47, 47, 32]).toArray⟩ from app_eq t _, app_eq]
theorem cat_n (t note : List UInt8) (c : UInt8) : (⟨t.toArray⟩ : ByteArray) ++ (⟨#[32, 9, 47, 47, 32]⟩ : ByteArray) ++ (⟨note.toArray⟩ : ByteArray) ++ (⟨[c].toArray⟩ : ByteArray) = ⟨(t ++ [32, 9, 47, 47, 32] ++ note ++ [c]).toArray⟩ := by
  rw [cat_p, app_eq]
theorem cat_nb (t note : List UInt8) (c : UInt8) : (⟨t.toArray⟩ : ByteArray) ++ (⟨#[32, 9, 47, 47, 32]⟩ : ByteArray) ++ (⟨note.toArray⟩ : ByteArray) ++ (⟨#[9, 32]⟩ : ByteArray) ++ (⟨[c].toArray⟩ : ByteArray) = ⟨(t ++ [32, 9, 47, 47, 32] ++ note ++ [9, 32] ++ [c]).toArray⟩ := by
  rw [cat_p, cat_b]
set_option maxRecDepth 100000 in
set_option maxHeartbeats 8000000 in
theorem core_linesNotes (v : Value) (ls : List L6.Line) (note : List UInt8) (w : World) (h : RdL w v ls) (hs : L6.Small ls) (hnm : note.length ≤ maxLen) : Calls Tryd.prog 7 #[v, .string ⟨note.toArray⟩] w fun e w' => e = .returned (.bool true) ∧ Below w.heap.size w w' := by
  have CK := Lib.hid (fun W => lknows_any W)
  have CL := Lib.hid (llight_any v ls w h hs)
  have HH := Lib.hid h
  obtain ⟨A, c, rfl⟩ := h.form
  clear h hs
  go_enter Tryd.func7, Tryd.ntmps7
  go_wp2_with (go_at_call 21; refine CL.out.mono ?_)
  rintro e w0 ⟨b, rfl, hwt, hb0⟩
  have HB0 := Lib.hid hb0
  clear hb0
  cases b
  · go_wp2_with (go_at_call 11; refine (CK.out _).mono ?_; rintro e w1 ⟨rfl, hb1⟩)
    go_ret
    exact ⟨rfl, HB0.out.trans (hb1.mono HB0.out.size)⟩
  by_cases hbig : 20 < note.length
  · have hbig' : (20 : Int) < note.length := by omega
    go_wp2_with (go_at_call 11; refine (CK.out _).mono ?_; rintro e w1 ⟨rfl, hb1⟩)
    go_ret
    exact ⟨rfl, HB0.out.trans (hb1.mono HB0.out.size)⟩
  have hbig' : ¬ (20 : Int) < note.length := by omega
  have HNL := Lib.hid (show note.length ≤ 20 from by omega)
  have HGN := Lib.hid (fun k (hk : k < note.length) => L6.get_data note k hk)
  have hW := hwt rfl
  have HW := Lib.hid (show L6.weight ls ≤ 100000000 from by omega)
  have HLL := Lib.hid (show ls.length ≤ 750 from by have := L6.weight_len ls; omega)
  have HFIT := Lib.hid (show ∀ x ∈ ls, x.fits from fun x hx => (L6.few_of (Nat.le_trans (L6.weight_mem hx) HW.out)).fits)
  have HTXL := Lib.hid (show (L6.text ls).length ≤ 6000 from by have := L6.text_len ls; omega)
  have CO := Lib.hid (fun W (hb : Below w.heap.size w W) => lown_any (.slice A ls.length c) ls W (HH.out.kept hb) (by have := HLL.out; omega) HFIT.out)
  have CP := Lib.hid (fun v W (h : RdL W v ls) => lprint_any v ls W h HW.out)
  clear hW hwt hbig hnm
  go_wp2_with fail
  clear hbig'
  have HBR := HB0
  go_loop [5] (fun i => ∃ k : Nat, i = .int .i64 (k : Int) ∧ k ≤ note.length ∧ ∀ j, j < k → note.getD j 0 ≠ 10) (fun i => note.length - (intOf i).toNat)
  case atStart => exact ⟨0, rfl, Nat.zero_le _, fun j hj => absurd hj (by omega)⟩
  case round =>
    obtain ⟨k, rfl, hk, hno⟩ := hrel
    have HN := Lib.hid hno
    clear hno
    by_cases hlt : k < note.length
    · have hlt' : (k : Int) < note.length := by omega
      have hw1 : IntKind.i64.wrap ((k : Int) + 1) = (k : Int) + 1 := by have := HNL.out; rw [IntKind.wrap_i64]; omega
      have e10 : ((((⟨note.toArray⟩ : ByteArray)[k]'hlt).toNat : Int) == 10) = (note.getD k 0 == 10) := by rw [HGN.out k hlt]; exact byte_eq _ 10
      by_cases h10 : note.getD k 0 = 10
      · rw [h10] at e10
        clear h10
        go_wp2_with (go_at_call 11; refine (CK.out _).mono ?_; rintro e w1 ⟨rfl, hb1⟩)
        go_ret
        exact ⟨rfl, HB0.out.trans (hb1.mono HB0.out.size)⟩
      · rw [show (note.getD k 0 == 10) = false from by simpa using h10] at e10
        have HE := Lib.hid (show ∀ j, j < k + 1 → note.getD j 0 ≠ 10 from fun j hj => by
          by_cases e : j = k
          · rw [e]; exact h10
          · exact HN.out j (by omega))
        clear h10
        go_wp2_with fail
        go_round
        case rel => exact ⟨k + 1, by simp, hlt, HE.out⟩
        case measure => simp [intOf]; omega
    · have hle : (note.length : Int) ≤ (k : Int) := by omega
      have HFR := Lib.hid (L6.free_all (s := note) (fun j hj => HN.out j (by omega)))
      clear HN hk
      rcases L6.print_two ls with hp | ⟨hall, hp⟩
      · rw [hp] at CP
        generalize (L6.print ls).1 = TX at *
        clear hp
        go_wp2_with (first | (go_at_call 23; refine (CO.out _ HBR.out).mono ?_; rintro e w1 ⟨v1, rfl, hv1, hb1⟩; have HV1 := Lib.hid hv1; have HB1 := Lib.hid (HBR.out.trans (hb1.mono HBR.out.size)); obtain ⟨A1, c1, rfl⟩ := hv1.form; clear hv1 hb1) | (go_at_call 22; refine (CP.out _ _ HV1.out).mono ?_; rintro e w2 ⟨rfl, hb2⟩; have HB2 := Lib.hid (HB1.out.trans (hb2.mono HB1.out.size)); clear hb2) | (go_at_call 16; refine (lnum_any _ _).mono ?_; rintro e w' ⟨rfl, rfl⟩) | (go_at_call 11; refine (CK.out _).mono ?_; rintro e w9 ⟨rfl, hb9⟩))
        go_ret
        exact ⟨rfl, HB2.out.trans (hb9.mono HB2.out.size)⟩
      · rw [hp] at CP
        have CQ1 := Lib.hid (fun W => lparse_any (L6.text ls) W (by have := HTXL.out; omega))
        have HNT := Lib.hid (L6.noted_len note true (L6.text ls))
        have hmul := Nat.mul_le_mul (show 8 + note.length ≤ 28 from by have := HNL.out; omega) HTXL.out
        have CQ2 := Lib.hid (fun W => lparse_any (L6.noted note true (L6.text ls)) W (by have := HNT.out; omega))
        unfold ParsePost at CQ1 CQ2
        have HP1 := Lib.hid (L6.parse_back hall (by have := HLL.out; omega))
        have HP2 := Lib.hid (L6.parse_noted HFR.out hall (by have := HLL.out; omega))
        have CR := Lib.hid (fun v W (h : RdL W v ls) => lref_any v ls W h (by have := HLL.out; omega) HFIT.out)
        have CS := Lib.hid (fun a b W (h : RdL W a ls) (h' : RdL W b ls) => rsame_self a b ls W h h' (by have := HLL.out; omega) HFIT.out)
        clear hp hall hmul HNT
        generalize L6.text ls = TX at *
        have HGT := Lib.hid (fun k (hk : k < TX.length) => L6.get_data TX k hk)
        go_wp2_with (first | (go_at_call 23; refine (CO.out _ HBR.out).mono ?_; rintro e w1 ⟨v1, rfl, hv1, hb1⟩; have HV1 := Lib.hid hv1; have HB1 := Lib.hid (HBR.out.trans (hb1.mono HBR.out.size)); obtain ⟨A1, c1, rfl⟩ := hv1.form; clear hv1 hb1) | (go_at_call 22; refine (CP.out _ _ HV1.out).mono ?_; rintro e w2 ⟨rfl, hb2⟩; have HB2 := Lib.hid (HB1.out.trans (hb2.mono HB1.out.size)); clear hb2) | (go_at_call 16; refine (lnum_any _ _).mono ?_; rintro e w' ⟨rfl, rfl⟩))
        go_loop [8, 9] (fun o i => ∃ (T : List UInt8) (k : Nat), o = .string ⟨T.toArray⟩ ∧ i = .int .i64 (k : Int) ∧ k ≤ TX.length ∧ L6.noted note true TX = T ++ L6.noted note (decide (k = 0) || (TX.getD (k - 1) 0 == 10)) (TX.drop k) ∧ T.length ≤ 28 * k) (fun _ i => TX.length - (intOf i).toNat)
        case atStart => exact ⟨[], 0, rfl, rfl, Nat.zero_le _, by simp, by simp⟩
        case round =>
          obtain ⟨T, k, rfl, rfl, hk, hin, htl⟩ := hrel
          have HTL := Lib.hid htl
          by_cases hlt : k < TX.length
          · have hlt' : (k : Int) < TX.length := by omega
            have hw1 : IntKind.i64.wrap ((k : Int) + 1) = (k : Int) + 1 := by have := HTXL.out; rw [IntKind.wrap_i64]; omega
            have hw2 : IntKind.i64.wrap ((k : Int) - 1) = (k : Int) - 1 := by have := HTXL.out; rw [IntKind.wrap_i64]; omega
            have e10 : ((((⟨TX.toArray⟩ : ByteArray)[k]'hlt).toNat : Int) == 10) = (TX.getD k 0 == 10) := by rw [HGT.out k hlt]; exact byte_eq _ 10
            have hk1 : (k : Int) + 1 ≤ (TX.length : Int) := by omega
            have hkk : (k : Int) ≤ (k : Int) + 1 := by omega
            have hkn : ((k : Int) + 1).toNat = k + 1 := by omega
            have HDR := Lib.hid (show TX.drop k = TX.getD k 0 :: TX.drop (k + 1) from by rw [List.drop_eq_getElem_cons hlt, show TX[k] = TX.getD k 0 from by simp [List.getD, hlt]])
            have HEX := Lib.hid (show (⟨TX.toArray⟩ : ByteArray).extract k (k + 1) = ⟨[TX.getD k 0].toArray⟩ from by
              rw [ext_eq, show k + 1 - k = 1 from by omega, List.drop_eq_getElem_cons hlt, List.take_succ_cons, List.take_zero]; simp [List.getD, hlt])
            have hsz : ((⟨TX.toArray⟩ : ByteArray).extract k (k + 1)).size = 1 := by rw [HEX.out]; rfl
            have HLT := Lib.hid (show k + 1 ≤ TX.length from hlt)
            have hnl := HNL.out
            have hxl := HTXL.out
            have k1 : ¬ 9223372036854775807 < T.length + 5 := by omega
            have k2 : ¬ 9223372036854775807 < T.length + 5 + note.length := by omega
            have k3 : ¬ 9223372036854775807 < T.length + 5 + note.length + 2 := by omega
            have k4 : ¬ 9223372036854775807 < T.length + 5 + note.length + 2 + 1 := by omega
            have k5 : ¬ 9223372036854775807 < T.length + 5 + note.length + 1 := by omega
            have k6 : ¬ 9223372036854775807 < T.length + 2 := by omega
            have k7 : ¬ 9223372036854775807 < T.length + 2 + 1 := by omega
            have k8 : ¬ 9223372036854775807 < T.length + 1 := by omega
            have HNX := Lib.hid (show ∀ x, TX.getD k 0 = x → (decide (k + 1 = 0) || (TX.getD (k + 1 - 1) 0 == 10)) = (x == 10) from fun x hx => by rw [show k + 1 - 1 = k from by omega, hx]; simp)
            clear hnl hxl htl
            by_cases h10 : TX.getD k 0 = 10
            · rw [h10] at e10 HDR HEX
              have HNY := Lib.hid (HNX.out 10 h10)
              clear h10 HNX
              by_cases hk0 : k = 0
              · subst hk0
                have HIN := Lib.hid (show L6.noted note true TX = T ++ L6.noted note true (TX.drop 0) from by rw [hin]; simp)
                clear hin
                have HST := Lib.hid (show L6.noted note true TX = (T ++ [32, 9, 47, 47, 32] ++ note ++ [9, 32] ++ [10]) ++ L6.noted note (10 == 10) (TX.drop (0 + 1)) from by rw [HIN.out, HDR.out]; rw [L6.noted_cons]; simp [L6.pre])
                go_wp2_with fail
                go_round
                case rel => exact ⟨T ++ [32, 9, 47, 47, 32] ++ note ++ [9, 32] ++ [10], 0 + 1, by rw [HEX.out]; exact congrArg Value.string (cat_nb T note 10), by simp, HLT.out, (by rw [HNY.out]; exact HST.out), by have := HTL.out; have := HNL.out; simp; omega⟩
                case measure => have := HLT.out; simp [intOf]; omega
              · have hp0 : ((k : Int) == 0) = false := by rw [beq_eq_false_iff_ne]; omega
                have hp1 : (0 : Int) ≤ (k : Int) - 1 := by omega
                have hp2 : (k : Int) - 1 < (TX.length : Int) := by omega
                have hp3 : ((k : Int) - 1).toNat = k - 1 := by omega
                have hpl : k - 1 < TX.length := by omega
                have eprev : ((((⟨TX.toArray⟩ : ByteArray)[k - 1]'hpl).toNat : Int) == 10) = (TX.getD (k - 1) 0 == 10) := by rw [HGT.out (k - 1) hpl]; exact byte_eq _ 10
                have HIN0 := Lib.hid (show L6.noted note true TX = T ++ L6.noted note (TX.getD (k - 1) 0 == 10) (TX.drop k) from by rw [hin, decide_eq_false hk0]; simp)
                clear hin hk0
                cases hpv : (TX.getD (k - 1) 0 == 10)
                · rw [hpv] at eprev HIN0
                  have HIN := HIN0
                  clear hpv
                  have HST := Lib.hid (show L6.noted note true TX = (T ++ [32, 9, 47, 47, 32] ++ note ++ [10]) ++ L6.noted note (10 == 10) (TX.drop (k + 1)) from by rw [HIN.out, HDR.out]; rw [L6.noted_cons]; simp [L6.pre])
                  go_wp2_with fail
                  go_round
                  case rel => exact ⟨T ++ [32, 9, 47, 47, 32] ++ note ++ [10], k + 1, by rw [HEX.out]; exact congrArg Value.string (cat_n T note 10), by simp, HLT.out, (by rw [HNY.out]; exact HST.out), by have := HTL.out; have := HNL.out; simp; omega⟩
                  case measure => have := HLT.out; simp [intOf]; omega
                · rw [hpv] at eprev HIN0
                  have HIN := HIN0
                  clear hpv
                  have HST := Lib.hid (show L6.noted note true TX = (T ++ [32, 9, 47, 47, 32] ++ note ++ [9, 32] ++ [10]) ++ L6.noted note (10 == 10) (TX.drop (k + 1)) from by rw [HIN.out, HDR.out]; rw [L6.noted_cons]; simp [L6.pre])
                  go_wp2_with fail
                  go_round
                  case rel => exact ⟨T ++ [32, 9, 47, 47, 32] ++ note ++ [9, 32] ++ [10], k + 1, by rw [HEX.out]; exact congrArg Value.string (cat_nb T note 10), by simp, HLT.out, (by rw [HNY.out]; exact HST.out), by have := HTL.out; have := HNL.out; simp; omega⟩
                  case measure => have := HLT.out; simp [intOf]; omega
            · have HC10 := Lib.hid h10
              rw [show (TX.getD k 0 == 10) = false from by simpa using h10] at e10
              have HNY := Lib.hid (HNX.out _ rfl)
              clear h10 HNX
              generalize TX.getD k 0 = c at HDR HEX HC10 HNY
              by_cases hk0 : k = 0
              · subst hk0
                have HIN := Lib.hid (show L6.noted note true TX = T ++ L6.noted note true (TX.drop 0) from by rw [hin]; simp)
                clear hin
                have HST := Lib.hid (show L6.noted note true TX = (T ++ [9, 32] ++ [c]) ++ L6.noted note (c == 10) (TX.drop (0 + 1)) from by rw [HIN.out, HDR.out]; rw [L6.noted_cons]; simp [HC10.out])
                go_wp2_with fail
                go_round
                case rel => exact ⟨T ++ [9, 32] ++ [c], 0 + 1, by rw [HEX.out]; exact congrArg Value.string (cat_b T c), by simp, HLT.out, (by rw [HNY.out]; exact HST.out), by have := HTL.out; have := HNL.out; simp; omega⟩
                case measure => have := HLT.out; simp [intOf]; omega
              · have hp0 : ((k : Int) == 0) = false := by rw [beq_eq_false_iff_ne]; omega
                have hp1 : (0 : Int) ≤ (k : Int) - 1 := by omega
                have hp2 : (k : Int) - 1 < (TX.length : Int) := by omega
                have hp3 : ((k : Int) - 1).toNat = k - 1 := by omega
                have hpl : k - 1 < TX.length := by omega
                have eprev : ((((⟨TX.toArray⟩ : ByteArray)[k - 1]'hpl).toNat : Int) == 10) = (TX.getD (k - 1) 0 == 10) := by rw [HGT.out (k - 1) hpl]; exact byte_eq _ 10
                have HIN0 := Lib.hid (show L6.noted note true TX = T ++ L6.noted note (TX.getD (k - 1) 0 == 10) (TX.drop k) from by rw [hin, decide_eq_false hk0]; simp)
                clear hin hk0
                cases hpv : (TX.getD (k - 1) 0 == 10)
                · rw [hpv] at eprev HIN0
                  have HIN := HIN0
                  clear hpv
                  have HST := Lib.hid (show L6.noted note true TX = (T ++ [c]) ++ L6.noted note (c == 10) (TX.drop (k + 1)) from by rw [HIN.out, HDR.out]; rw [L6.noted_cons]; simp [HC10.out])
                  go_wp2_with fail
                  go_round
                  case rel => exact ⟨T ++ [c], k + 1, by rw [HEX.out]; exact congrArg Value.string (app_eq T [c]), by simp, HLT.out, (by rw [HNY.out]; exact HST.out), by have := HTL.out; have := HNL.out; simp; omega⟩
                  case measure => have := HLT.out; simp [intOf]; omega
                · rw [hpv] at eprev HIN0
                  have HIN := HIN0
                  clear hpv
                  have HST := Lib.hid (show L6.noted note true TX = (T ++ [9, 32] ++ [c]) ++ L6.noted note (c == 10) (TX.drop (k + 1)) from by rw [HIN.out, HDR.out]; rw [L6.noted_cons]; simp [HC10.out])
                  go_wp2_with fail
                  go_round
                  case rel => exact ⟨T ++ [9, 32] ++ [c], k + 1, by rw [HEX.out]; exact congrArg Value.string (cat_b T c), by simp, HLT.out, (by rw [HNY.out]; exact HST.out), by have := HTL.out; have := HNL.out; simp; omega⟩
                  case measure => have := HLT.out; simp [intOf]; omega
          · have hle : (TX.length : Int) ≤ (k : Int) := by omega
            have HEND := Lib.hid (show L6.noted note true TX = T from by rw [hin, List.drop_of_length_le (by omega)]; simp [L6.noted])
            clear hin htl hk
            rw [HEND.out] at CQ2 HP2
            rcases HP1.out with ⟨m1, hm1⟩ | hm1
            · rw [hm1] at CQ1
              rcases HP2.out with ⟨m2, hm2⟩ | hm2
              · rw [hm2] at CQ2
                clear hm1 hm2
                go_wp2_with (first | (go_at_call 12; with_reducible refine (CQ1.out _).mono ?_; rintro e w3 ⟨v3, rfl, hv3, hb3⟩; have HB3 := Lib.hid (HB2.out.trans (hb3.mono HB2.out.size)); have HV3 := Lib.hid hv3.rd; obtain ⟨A3, c3, rfl⟩ := hv3.form; clear hv3 hb3) | (go_at_call 12; with_reducible refine (CQ2.out _).mono ?_; rintro e w4 ⟨v4, rfl, hv4, hb4⟩; have HB4 := Lib.hid (HB3.out.trans (hb4.mono HB3.out.size)); have HV4 := Lib.hid hv4.rd; obtain ⟨A4, c4, rfl⟩ := hv4.form; have HK34 := Lib.hid hb4; clear hv4 hb4) | (go_at_call 16; refine (lnum_any _ _).mono ?_; rintro e w' ⟨rfl, rfl⟩) | (go_at_call 11; refine (CK.out _).mono ?_; rintro e w9 ⟨rfl, hb9⟩))
                go_ret
                exact ⟨rfl, HB4.out.trans (hb9.mono HB4.out.size)⟩
              · rw [hm2] at CQ2
                clear hm1 hm2
                go_wp2_with (first | (go_at_call 12; with_reducible refine (CQ1.out _).mono ?_; rintro e w3 ⟨v3, rfl, hv3, hb3⟩; have HB3 := Lib.hid (HB2.out.trans (hb3.mono HB2.out.size)); have HV3 := Lib.hid hv3.rd; obtain ⟨A3, c3, rfl⟩ := hv3.form; clear hv3 hb3) | (go_at_call 12; with_reducible refine (CQ2.out _).mono ?_; rintro e w4 ⟨v4, rfl, hv4, hb4⟩; have HB4 := Lib.hid (HB3.out.trans (hb4.mono HB3.out.size)); have HV4 := Lib.hid hv4.rd; obtain ⟨A4, c4, rfl⟩ := hv4.form; have HK34 := Lib.hid hb4; clear hv4 hb4) | (go_at_call 16; refine (lnum_any _ _).mono ?_; rintro e w' ⟨rfl, rfl⟩) | (go_at_call 11; refine (CK.out _).mono ?_; rintro e w9 ⟨rfl, hb9⟩))
                go_ret
                exact ⟨rfl, HB4.out.trans (hb9.mono HB4.out.size)⟩
            · rw [hm1] at CQ1
              rcases HP2.out with ⟨m2, hm2⟩ | hm2
              · rw [hm2] at CQ2
                clear hm1 hm2
                go_wp2_with (first | (go_at_call 12; with_reducible refine (CQ1.out _).mono ?_; rintro e w3 ⟨v3, rfl, hv3, hb3⟩; have HB3 := Lib.hid (HB2.out.trans (hb3.mono HB2.out.size)); have HV3 := Lib.hid hv3.rd; obtain ⟨A3, c3, rfl⟩ := hv3.form; clear hv3 hb3) | (go_at_call 12; with_reducible refine (CQ2.out _).mono ?_; rintro e w4 ⟨v4, rfl, hv4, hb4⟩; have HB4 := Lib.hid (HB3.out.trans (hb4.mono HB3.out.size)); have HV4 := Lib.hid hv4.rd; obtain ⟨A4, c4, rfl⟩ := hv4.form; have HK34 := Lib.hid hb4; clear hv4 hb4) | (go_at_call 16; refine (lnum_any _ _).mono ?_; rintro e w' ⟨rfl, rfl⟩) | (go_at_call 11; refine (CK.out _).mono ?_; rintro e w9 ⟨rfl, hb9⟩))
                go_ret
                exact ⟨rfl, HB4.out.trans (hb9.mono HB4.out.size)⟩
              · rw [hm2] at CQ2
                clear hm1 hm2
                go_wp2_with (first | (go_at_call 12; with_reducible refine (CQ1.out _).mono ?_; rintro e w3 ⟨v3, rfl, hv3, hb3⟩; have HB3 := Lib.hid (HB2.out.trans (hb3.mono HB2.out.size)); have HV3 := Lib.hid hv3.rd; obtain ⟨A3, c3, rfl⟩ := hv3.form; clear hv3 hb3) | (go_at_call 12; with_reducible refine (CQ2.out _).mono ?_; rintro e w4 ⟨v4, rfl, hv4, hb4⟩; have HB4 := Lib.hid (HB3.out.trans (hb4.mono HB3.out.size)); have HV4 := Lib.hid hv4.rd; obtain ⟨A4, c4, rfl⟩ := hv4.form; have HK34 := Lib.hid hb4; clear hv4 hb4) | (go_at_call 15; with_reducible refine (CR.out _ _ (HV3.out.kept HK34.out)).mono ?_; rintro e w5 ⟨v5, rfl, hv5, hb5⟩; have HB5 := Lib.hid (HB4.out.trans (hb5.mono HB4.out.size)); have HV5 := Lib.hid hv5; have HV4' := Lib.hid (HV4.out.kept hb5); clear hv5 hb5) | (go_at_call 15; with_reducible refine (CR.out _ _ HV4'.out).mono ?_; rintro e w6 ⟨v6, rfl, hv6, hb6⟩; have HB6 := Lib.hid (HB5.out.trans (hb6.mono HB5.out.size)); have HV6 := Lib.hid hv6; have HV5' := Lib.hid (HV5.out.kept hb6); clear hv6 hb6) | (go_at_call 14; refine (CS.out _ _ _ HV5'.out HV6.out).mono ?_; rintro e w7 ⟨rfl, hb7⟩; have HB7 := Lib.hid (HB6.out.trans (hb7.mono HB6.out.size)); clear hb7) | (go_at_call 16; refine (lnum_any _ _).mono ?_; rintro e w' ⟨rfl, rfl⟩) | (go_at_call 11; refine (CK.out _).mono ?_; rintro e w9 ⟨rfl, hb9⟩))
                go_ret
                exact ⟨rfl, HB7.out.trans (hb9.mono HB7.out.size)⟩
theorem walk_linesNotes (v : Value) (ls : List L6.Line) (s : ByteArray) (w : World) (h : RdL w v ls ∧ L6.Small ls) (hn : s.size ≤ maxLen) : Calls Tryd.prog 7 #[v, .string s] w fun e w' => e = .returned (.bool true) ∧ Below w.heap.size w w' := by
  have := core_linesNotes v ls s.data.toList w h.1 h.2 (by simpa using hn)
  simpa using this
end Go.Proofs.YtbkgpnilodjdiaaDoor
