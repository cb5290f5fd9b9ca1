/- The law BitsBack. -/
import Derived.Test.YtijekhdndegdaaaBtDbl
import Derived.Deep.DeepCutAuto
namespace Go.Proofs.Ytijekhdndegdaaa
open Go.RowKit
set_option linter.unusedVariables false
set_option linter.unusedSimpArgs false

theorem Bt.back_um (v d : Nat) (hv : v < 18446744073709551616) (hd : d < 4294967296) : ∃ (q r : Nat) (b : Bool), Bt.umT v d = ((q : Int), (r : Int), b) ∧ q < 4294967296 ∧ r < 4294967296 ∧ (b = true → (q : Int) * d + r = v ∧ r < d) := by
  by_cases h : v / 4294967296 < d
  · have hq := Bt.umq_lt (v := v) (d := d)
    rw [Bt.umq, if_pos h] at hq
    have hr := Nat.mod_lt v (show 0 < d by omega)
    refine ⟨v / d, v % d, true, by rw [Bt.umT, if_pos h], hq, by omega, fun _ => ⟨?_, hr⟩⟩
    have := Nat.div_add_mod v d
    rw [← Int.natCast_mul, ← Int.natCast_add, Nat.mul_comm, this]
  · exact ⟨0, 0, false, by rw [Bt.umT, if_neg h]; rfl, by omega, by omega, by simp⟩
theorem Bt.sgn_of (x : Int) (h : -2147483648 ≤ x ∧ x ≤ 2147483647) : ∃ q : Nat, q < 4294967296 ∧ x % 4294967296 = (q : Int) ∧ Bt.sgn q = x := by
  refine ⟨(x % 4294967296).toNat, by omega, by omega, ?_⟩
  unfold Bt.sgn; split <;> omega
theorem Bt.tmod_small (N M : Int) (hM : M ≠ 0) (hb : -2147483648 ≤ M ∧ M ≤ 2147483647) : -2147483647 ≤ N.tmod M ∧ N.tmod M ≤ 2147483647 := by
  have h1 : (N.tmod M).natAbs < M.natAbs := by rw [Int.natAbs_tmod]; exact Nat.mod_lt _ (by omega)
  omega
theorem Bt.back_sm (N M : Int) (hM : -2147483648 ≤ M ∧ M ≤ 2147483647) : ∃ (q r : Nat) (b : Bool), Bt.smRef N M = ((q : Int), (r : Int), b) ∧ q < 4294967296 ∧ r < 4294967296 ∧ (b = true → Bt.sgn q * M + Bt.sgn r = N ∧ (r ≠ 0 → decide (Bt.sgn r < 0) = decide (N < 0))) := by
  unfold Bt.smRef
  split
  · exact ⟨0, 0, false, rfl, by omega, by omega, by simp⟩
  · rename_i h0
    split
    · exact ⟨0, 0, false, rfl, by omega, by omega, by simp⟩
    · rename_i h1
      have h2 := Bt.tmod_small N M h0 hM
      obtain ⟨q, hq, e1, e2⟩ := Bt.sgn_of (N.tdiv M) (by omega)
      obtain ⟨r, hr, e3, e4⟩ := Bt.sgn_of (N.tmod M) (by omega)
      refine ⟨q, r, true, by rw [e1, e3], hq, hr, fun _ => ⟨?_, ?_⟩⟩
      · rw [e2, e4]
        have := Int.tmod_add_mul_tdiv N M
        rw [Int.mul_comm M] at this
        omega
      · intro k
        have hne : N.tmod M ≠ 0 := by intro e; rw [e] at e3; omega
        rw [e4]
        by_cases hN : N < 0
        · have : N.tmod M ≤ 0 := by
            have e := Int.neg_tmod (-N) M
            rw [Int.neg_neg] at e
            have := Int.tmod_nonneg M (show 0 ≤ -N by omega)
            omega
          rw [decide_eq_decide]; omega
        · have := Int.tmod_nonneg M (show 0 ≤ N by omega)
          rw [decide_eq_decide]; omega
theorem Bt.back_fm (N M : Int) (hM : -2147483648 ≤ M ∧ M ≤ 2147483647) : ∃ (q r : Nat) (b : Bool), Bt.fmRef N M = ((q : Int), (r : Int), b) ∧ q < 4294967296 ∧ r < 4294967296 ∧ (b = true → Bt.sgn q * M + Bt.sgn r = N ∧ (r ≠ 0 → decide (Bt.sgn r < 0) = decide (M < 0))) := by
  unfold Bt.fmRef
  split
  · exact ⟨0, 0, false, rfl, by omega, by omega, by simp⟩
  · rename_i h0
    have h0' : M ≠ 0 := fun e => h0 (.inl e)
    have habs : (N.tmod M).natAbs < M.natAbs := by rw [Int.natAbs_tmod]; exact Nat.mod_lt _ (by omega)
    have hdm := Int.tmod_add_mul_tdiv N M
    rw [Int.mul_comm M] at hdm
    unfold Bt.fmQ Bt.fmR
    generalize N.tmod M = R at *
    generalize N.tdiv M = Q at *
    clear h0
    by_cases c : R ≠ 0 ∧ (decide (R < 0) != decide (M < 0)) = true
    · simp only [if_pos c]
      have c3 : (R < 0 ∧ ¬ M < 0) ∨ (¬ R < 0 ∧ M < 0) := by
        have c2 := c.2
        by_cases k1 : R < 0 <;> by_cases k2 : M < 0 <;> simp [k1, k2] at c2 ⊢
      split
      · exact ⟨0, 0, false, rfl, by omega, by omega, by simp⟩
      · obtain ⟨q, hq, e1, e2⟩ := Bt.sgn_of (Q - 1) (by omega)
        obtain ⟨r, hr, e3, e4⟩ := Bt.sgn_of (R + M) (by omega)
        refine ⟨q, r, true, by rw [e1, e3], hq, hr, fun _ => ⟨?_, fun k => ?_⟩⟩
        · rw [e2, e4, Int.sub_mul]; omega
        · rw [e4, decide_eq_decide]; omega
    · simp only [if_neg c]
      have c3 : R = 0 ∨ (R < 0 ∧ M < 0) ∨ (¬ R < 0 ∧ ¬ M < 0) := by
        by_cases k0 : R = 0
        · exact .inl k0
        · have c2 : ¬ (decide (R < 0) != decide (M < 0)) = true := fun k => c ⟨k0, k⟩
          by_cases k1 : R < 0 <;> by_cases k2 : M < 0 <;> simp [k0, k1, k2] at c2 ⊢
      split
      · exact ⟨0, 0, false, rfl, by omega, by omega, by simp⟩
      · obtain ⟨q, hq, e1, e2⟩ := Bt.sgn_of Q (by omega)
        obtain ⟨r, hr, e3, e4⟩ := Bt.sgn_of R (by omega)
        refine ⟨q, r, true, by rw [e1, e3], hq, hr, fun _ => ⟨?_, fun k => ?_⟩⟩
        · rw [e2, e4]; omega
        · rw [e4, decide_eq_decide]; omega
set_option maxRecDepth 100000 in
set_option maxHeartbeats 2000000 in
theorem walk_bitsBack (V D : Int) (w : World) (hV : 0 ≤ V ∧ V ≤ 18446744073709551615) (hD : 0 ≤ D ∧ D ≤ 4294967295) :
    Calls Try.prog 7 #[.int .u64 V, .int .u32 D] w fun e w' => e = .returned (.bool true) ∧ Below w.heap.size w w' := by
  obtain ⟨v, rfl⟩ := Int.eq_ofNat_of_zero_le hV.1
  obtain ⟨d, rfl⟩ := Int.eq_ofNat_of_zero_le hD.1
  have hv : v < 18446744073709551616 := by omega
  have hd : d < 4294967296 := by omega
  clear hV hD
  have c1 := Lib.hid (fun w => um_own v d w hv hd)
  have c2 := Lib.hid (fun w => sm_own v d w hv hd)
  have c3 := Lib.hid (fun w => fm_own v d w hv hd)
  have c4 := Lib.hid (fun w => signed_any d w hd)
  have hN := Bt.wrap64_eq hv
  have hMb := Bt.sgn_bd hd
  have hNb := Bt.sgn64_bd hv
  obtain ⟨q1, r1, b1, e1, hq1, hr1, k1⟩ := Bt.back_um v d hv hd
  generalize Bt.sgn d = M at *
  generalize Bt.sgn64 v = N at *
  obtain ⟨q2, r2, b2, e2, hq2, hr2, k2⟩ := Bt.back_sm N M hMb
  obtain ⟨q3, r3, b3, e3, hq3, hr3, k3⟩ := Bt.back_fm N M hMb
  rw [e1] at c1
  rw [e2] at c2
  rw [e3] at c3
  simp only [Bt.out] at c1 c2 c3
  have s2 := Lib.hid (fun w => signed_any q2 w hq2)
  have t2 := Lib.hid (fun w => signed_any r2 w hr2)
  have s3 := Lib.hid (fun w => signed_any q3 w hq3)
  have t3 := Lib.hid (fun w => signed_any r3 w hr3)
  have B2 := Bt.sgn_bd hr2
  have B3 := Bt.sgn_bd hr3
  have A2 := Bt.sgn_bd hq2
  have A3 := Bt.sgn_bd hq3
  generalize Bt.sgn q2 = Q2 at *
  generalize Bt.sgn q3 = Q3 at *
  generalize Bt.sgn r2 = R2 at *
  generalize Bt.sgn r3 = R3 at *
  have P2 := Bt.prod_bd (A := 2147483648) (B := 2147483648) (x := Q2) (y := M) (by omega) (by omega) (by omega) (by omega)
  have P3 := Bt.prod_bd (A := 2147483648) (B := 2147483648) (x := Q3) (y := M) (by omega) (by omega) (by omega) (by omega)
  have HP2 : wrap64 (Q2 * M) = Q2 * M := IntWalk.wrap64_in _ (by omega)
  have HP3 : wrap64 (Q3 * M) = Q3 * M := IntWalk.wrap64_in _ (by omega)
  have HX : b1 = true → IntKind.u64.wrap ((q1 : Int) * d) = (q1 : Int) * d ∧ (q1 : Int) * d + r1 = v ∧ (r1 : Int) < d ∧ 0 ≤ (q1 : Int) * d := fun h => by
    have h1 := (k1 h).1
    have h2 : (0 : Int) ≤ (q1 : Int) * d := Int.mul_nonneg (by omega) (by omega)
    exact ⟨by rw [IntKind.wrap_u64]; omega, h1, by have := (k1 h).2; omega, h2⟩
  have hX0 : b1 = true → ((q1 : Int) * d + r1 != v) = false := fun h => by simpa using (HX h).2.1
  have e2 : b2 = true → ((wrap64 (Q2 * M + R2)) != N) = false := fun h => by rw [(k2 h).1, IntWalk.wrap64_in _ (by omega)]; simp
  have e3 : b3 = true → ((wrap64 (Q3 * M + R3)) == N) = true := fun h => by rw [(k3 h).1, IntWalk.wrap64_in _ (by omega)]; simp
  have z2 : b2 = true → ((r2 : Int) != 0) = false ∨ (((r2 : Int) != 0) = true ∧ decide (R2 < 0) = decide (N < 0)) := fun h => by
    by_cases h0 : r2 = 0
    · left; simp [h0]
    · right; exact ⟨by simpa using h0, (k2 h).2 h0⟩
  have z3 : b3 = true → ((r3 : Int) == 0) = true ∨ (((r3 : Int) == 0) = false ∧ decide (R3 < 0) = decide (M < 0)) := fun h => by
    by_cases h0 : r3 = 0
    · left; simp [h0]
    · right; exact ⟨by simpa using h0, (k3 h).2 h0⟩
  have HX := Lib.hid HX; have E2 := Lib.hid e2; have E3 := Lib.hid e3; have Z2 := Lib.hid z2; have Z3 := Lib.hid z3; have HX0 := Lib.hid hX0
  have HN := Lib.hid hN; have JP2 := Lib.hid HP2; have JP3 := Lib.hid HP3
  clear hX0 e2 e3 z2 z3 k1 k2 k3 hN HP2 HP3 P2 P3 e1
  go_enter Try.func7, Try.ntmps7
  go_wp2_with fail
  refine (c1.out _).mono ?_
  rintro e w1 ⟨rfl, hb1⟩
  go_upto_region 2 with fail
  go_cut [33] (fun s wx => s = .bool false ∧ wx = w1)
  case first =>
    cases b1
    · go_wp2_with fail
      go_meet; exact ⟨rfl, rfl⟩
    · obtain ⟨x1, x2, x3, x4⟩ := HX.out rfl
      have x5 := HX0.out rfl
      have x6 : (q1 : Int) * d + r1 ≤ 18446744073709551615 := by omega
      have x7 : decide (d ≤ r1) = false := by rw [decide_eq_false_iff_not]; omega
      clear x2 x3
      go_wp2_with fail
      go_meet; exact ⟨rfl, rfl⟩
  case rest =>
    obtain ⟨rfl, rfl⟩ := hcut
    clear HX HX0
    go_wp2_with fail
    refine (c4.out _).mono ?_
    rintro e w' ⟨rfl, rfl⟩
    go_wp2_with fail
    refine (c2.out _).mono ?_
    rintro e w2 ⟨rfl, hb2⟩
    go_upto_region 6 with fail
    go_cut [68] (fun s wx => s = .bool false ∧ wx = w2)
    case first =>
      cases b2
      · go_wp2_with fail
        go_meet; exact ⟨rfl, rfl⟩
      · have x1 := E2.out rfl
        have x2 := JP2.out
        have x3 := HN.out
        rcases Z2.out rfl with x4 | ⟨x4, x5⟩
        all_goals
          go_wp2_with (go_at_call 32; first | ((with_reducible refine (s2.out _).mono ?_); rintro e w' ⟨rfl, rfl⟩) | ((with_reducible refine (t2.out _).mono ?_); rintro e w' ⟨rfl, rfl⟩))
          go_meet; exact ⟨rfl, rfl⟩
    case rest =>
      obtain ⟨rfl, rfl⟩ := hcut
      clear E2 JP2 Z2
      go_wp2_with fail
      refine (c3.out _).mono ?_
      rintro e w3 ⟨rfl, hb3⟩
      cases b3
      · go_wp2_with (go_at_call 28; refine (knows_any _).mono ?_; rintro e w7 ⟨rfl, hb7⟩)
        go_ret
        exact ⟨rfl, Bt.then_below (Bt.then_below (Bt.then_below hb1 hb2) hb3) hb7⟩
      · have x1 := E3.out rfl
        have x2 := JP3.out
        have x3 := HN.out
        rcases Z3.out rfl with x4 | ⟨x4, x5⟩
        all_goals
          go_wp2_with (first | (go_at_call 32; first | ((with_reducible refine (s3.out _).mono ?_); rintro e w' ⟨rfl, rfl⟩) | ((with_reducible refine (t3.out _).mono ?_); rintro e w' ⟨rfl, rfl⟩)) | (go_at_call 28; refine (knows_any _).mono ?_; rintro e w7 ⟨rfl, hb7⟩))
          go_ret
          exact ⟨rfl, Bt.then_below (Bt.then_below (Bt.then_below hb1 hb2) hb3) hb7⟩
end Go.Proofs.Ytijekhdndegdaaa
