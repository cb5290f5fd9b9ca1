/- The law BitsDoubles. -/
import Derived.Test.YtijekhdndegdaaaBtEq
namespace Go.Proofs.Ytijekhdndegdaaa
open Go.RowKit
set_option linter.unusedVariables false
set_option linter.unusedSimpArgs false

theorem Bt.then_below {a b c : World} (h : Below a.heap.size a b) (k : Below b.heap.size b c) : Below a.heap.size a c := h.trans (k.mono h.size)

set_option maxRecDepth 100000 in
set_option maxHeartbeats 1000000 in
theorem walk_bitsDoubles (V D : Int) (w : World) (hV : 0 ≤ V ∧ V ≤ 18446744073709551615) (hD : 0 ≤ D ∧ D ≤ 4294967295) :
    Calls Try.prog 6 #[.int .u64 V, .int .u32 D] w fun e w' => e = .returned (.bool true) ∧ Below w.heap.size w w' := by
  obtain ⟨v, rfl⟩ := Int.eq_ofNat_of_zero_le hV.1
  obtain ⟨d, rfl⟩ := Int.eq_ofNat_of_zero_le hD.1
  have hv : v < 18446744073709551616 := by omega
  have hd : d < 4294967296 := by omega
  clear hV hD
  have c1 := Lib.hid (fun w => um_own v d w hv hd)
  have c2 := Lib.hid (fun w => um_ref v d w hv hd)
  have c3 := Lib.hid (fun w => sm_own v d w hv hd)
  have c4 := Lib.hid (fun w => sm_ref v d w hv hd)
  have c5 := Lib.hid (fun w => fm_own v d w hv hd)
  have c6 := Lib.hid (fun w => fm_ref v d w hv hd)
  generalize Bt.umT v d = t1 at *
  generalize Bt.smRef (Bt.sgn64 v) (Bt.sgn d) = t2 at *
  generalize Bt.fmRef (Bt.sgn64 v) (Bt.sgn d) = t3 at *
  obtain ⟨q1, r1, b1⟩ := t1
  obtain ⟨q2, r2, b2⟩ := t2
  obtain ⟨q3, r3, b3⟩ := t3
  simp only [Bt.out] at c1 c2 c3 c4 c5 c6
  have HV := Lib.hid hv; have HD := Lib.hid hd
  go_enter Try.func6, Try.ntmps6
  go_wp2_with fail
  refine (c1.out _).mono ?_
  rintro e w1 ⟨rfl, hb1⟩
  go_wp2_with fail
  refine (c2.out _).mono ?_
  rintro e w2 ⟨rfl, hb2⟩
  go_wp2_with fail
  refine (c3.out _).mono ?_
  rintro e w3 ⟨rfl, hb3⟩
  go_wp2_with fail
  refine (c4.out _).mono ?_
  rintro e w4 ⟨rfl, hb4⟩
  go_wp2_with fail
  refine (c5.out _).mono ?_
  rintro e w5 ⟨rfl, hb5⟩
  go_wp2_with fail
  refine (c6.out _).mono ?_
  rintro e w6 ⟨rfl, hb6⟩
  go_wp2_with (go_at_call 28; refine (knows_any _).mono ?_; rintro e w7 ⟨rfl, hb7⟩)
  go_ret
  refine ⟨rfl, ?_⟩
  exact Bt.then_below (Bt.then_below (Bt.then_below (Bt.then_below (Bt.then_below (Bt.then_below hb1 hb2) hb3) hb4) hb5) hb6) hb7

end Go.Proofs.Ytijekhdndegdaaa
