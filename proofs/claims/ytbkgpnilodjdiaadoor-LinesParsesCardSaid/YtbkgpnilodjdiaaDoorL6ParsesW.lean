/- The walk of the law LinesParses. -/
import Derived.Test.YtbkgpnilodjdiaaDoorL6Knows
namespace Go.Proofs.YtbkgpnilodjdiaaDoor
open Go.RowKit Kit
set_option linter.unusedVariables false
set_option linter.unusedSimpArgs false

set_option maxRecDepth 100000 in
set_option maxHeartbeats 1000000 in
theorem core_linesParses (s : List UInt8) (w : World) (hl : s.length ≤ maxLen) : Calls Tryd.prog 3 #[.string ⟨s.toArray⟩] w fun e w' => e = .returned (.bool true) ∧ Below w.heap.size w w' := by
  have CK := Lib.hid (fun W => lknows_any W)
  by_cases hbig : 4000 < s.length
  · have hbig' : (4000 : Int) < s.length := by omega
    go_enter Tryd.func3, Tryd.ntmps3
    go_wp2_with (go_at_call 11; refine (CK.out _).mono ?_; rintro e w1 ⟨rfl, hb1⟩)
    go_ret
    exact ⟨rfl, hb1⟩
  · have hbig' : ¬ (4000 : Int) < s.length := by omega
    have hs : s.length ≤ 1000000000 := by omega
    have CA := Lib.hid (fun W => lparse_any s W hs)
    have CB := Lib.hid (fun W => rparse_any s W hs)
    have CR := Lib.hid (fun v W (h : RdL W v (L6.parse s).1) => lref_any v (L6.parse s).1 W h (Nat.le_trans (L6.parse_len s) (by decide)) (L6.parse_fits s))
    have CS := Lib.hid (fun a b W (h : RdL W a (L6.parse s).1) (h' : RdL W b (L6.parse s).1) => rSame_any a b _ _ W h h' (Nat.le_trans (L6.parse_len s) (by decide)) (Nat.le_trans (L6.parse_len s) (by decide)) (L6.parse_fits s) (L6.parse_fits s))
    have CS' := Lib.hid (fun a b W (h : RdL W a (L6.parse s).1) (h' : RdL W b (L6.parse s).1) => (CS.out a b W h h').mono (R' := fun e w' => e = .returned (.bool true) ∧ Below W.heap.size W w') (fun e w' hh => ⟨hh.1.trans (by simp), hh.2⟩))
    clear CS hl hbig hs
    unfold ParsePost at CA
    unfold RParsePost at CB
    generalize (L6.parse s).2.1 = N at *
    generalize (L6.parse s).2.2 = F at *
    generalize (L6.parse s).1 = ls at *
    go_enter Tryd.func3, Tryd.ntmps3
    go_wp2_with (first | (go_at_call 12; refine (CA.out _).mono ?_; rintro e w1 ⟨v1, rfl, hv1, hb1⟩; have HV1 := Lib.hid hv1.rd; obtain ⟨A1, c1, rfl⟩ := hv1.form; clear hv1) | (go_at_call 13; refine (CB.out _).mono ?_; rintro e w2 ⟨v2, rfl, hv2, hb2⟩; have HV2 := Lib.hid hv2.rd; obtain ⟨A2, c2, rfl⟩ := hv2.form; clear hv2) | (go_at_call 15; refine (CR.out _ _ (HV1.out.kept hb2)).mono ?_; rintro e w3 ⟨v3, rfl, hv3, hb3⟩; have HV3 := Lib.hid hv3) | (go_at_call 14; refine (CS'.out _ _ _ HV3.out (HV2.out.kept hb3)).mono ?_; rintro e w4 ⟨rfl, hb4⟩) | (go_at_call 16; refine (lnum_any _ _).mono ?_; rintro e w' ⟨rfl, rfl⟩) | (go_at_call 11; refine (CK.out _).mono ?_; rintro e w5 ⟨rfl, hb5⟩))
    go_ret
    have z1 := hb1.size
    have z2 := hb2.size
    have z3 := hb3.size
    have z4 := hb4.size
    exact ⟨rfl, (((hb1.trans (hb2.mono (by omega))).trans (hb3.mono (by omega))).trans (hb4.mono (by omega))).trans (hb5.mono (by omega))⟩
theorem walk_linesParses (s : ByteArray) (w : World) (hl : s.size ≤ maxLen) : Calls Tryd.prog 3 #[.string s] w fun e w' => e = .returned (.bool true) ∧ Below w.heap.size w w' := by
  have := core_linesParses s.data.toList w (by simpa using hl)
  simpa using this
end Go.Proofs.YtbkgpnilodjdiaaDoor
