/- Walks of the document's divisions of doubles. -/
import Derived.Test.YtijekhdndegdaaaBtWalks
namespace Go.Proofs.Ytijekhdndegdaaa
open Go.RowKit
set_option linter.unusedVariables false
set_option linter.unusedSimpArgs false

theorem Bt.sgn64_bd {v : Nat} (hv : v < 18446744073709551616) : -9223372036854775808 ≤ Bt.sgn64 v ∧ Bt.sgn64 v ≤ 9223372036854775807 := by unfold Bt.sgn64; split <;> omega
theorem Bt.wrap64_eq {v : Nat} (hv : v < 18446744073709551616) : wrap64 (v : Int) = Bt.sgn64 v := by unfold wrap64 Bt.sgn64; split <;> omega

theorem still_of {P : Program} {f : FuncId} {args : Array Value} {w : World} {v : Value} (h : Calls P f args w fun e w' => e = .returned v ∧ w = w') : Calls P f args w fun e w' => e = .returned v ∧ w' = w :=
  h.mono fun _ _ ⟨he, hw⟩ => ⟨he, hw.symm⟩

theorem refum_no (v d : Nat) (w : World) (hv : v < 18446744073709551616) (hd : d < 4294967296) (h : ¬ v / 4294967296 < d) :
    Calls Try.prog 35 #[.int .u64 v, .int .u32 d] w fun e w' => e = .returned (.tuple #[.int .u32 0, .int .u32 0, .bool false]) ∧ Below w.heap.size w w' := by
  by_cases h0 : d = 0
  · subst h0
    go_enter Try.func35, Try.ntmps35
    go_wp2
    go_ret3
    exact ⟨rfl, Below.refl _ _⟩
  · have h3 : ((d : Int) == 0) = false := by simp; omega
    have h4 : (d : Int) ≠ 0 := by omega
    have h5 : 1 ≤ (d : Int) := by omega
    have h6 : ((4294967295 : Int) < (v : Int) / (d : Int)) := by
      rw [← Int.natCast_ediv]
      have : 4294967296 ≤ v / d := by
        rw [Nat.le_div_iff_mul_le (by omega)]
        have h1 : d ≤ v / 4294967296 := by omega
        have h2 : d * 4294967296 ≤ v / 4294967296 * 4294967296 := Nat.mul_le_mul_right _ h1
        have h3 : 4294967296 * d = d * 4294967296 := Nat.mul_comm _ _
        omega
      omega
    obtain ⟨Q, hQ⟩ : ∃ Q : Int, IntKind.u64.wrap ((v : Int) / (d : Int)) = Q := ⟨_, rfl⟩
    have h7 : (4294967295 : Int) < Q := by
      rw [← hQ, ← Int.natCast_ediv, IntKind.wrap_u64]
      have h8 : v / d ≤ v := Nat.div_le_self _ _
      rw [← Int.natCast_ediv] at h6
      generalize v / d = y at *
      omega
    clear h h0 h6
    go_enter Try.func35, Try.ntmps35
    go_wp2
    go_ret3
    exact ⟨rfl, Below.refl _ _⟩
set_option maxRecDepth 100000 in
theorem refum_yes (v d : Nat) (w : World) (hv : v < 18446744073709551616) (hd : d < 4294967296) (h : v / 4294967296 < d) :
    Calls Try.prog 35 #[.int .u64 v, .int .u32 d] w fun e w' => e = .returned (.tuple #[.int .u32 ((v / d : Nat) : Int), .int .u32 ((v % d : Nat) : Int), .bool true]) ∧ Below w.heap.size w w' := by
  have h3 : ((d : Int) == 0) = false := by simp; omega
  have h4 : (d : Int) ≠ 0 := by omega
  have h5 : 1 ≤ (d : Int) := by omega
  have hq := Bt.umq_lt (v := v) (d := d)
  rw [Bt.umq, if_pos h] at hq
  have hr := Nat.mod_lt v (show 0 < d by omega)
  obtain ⟨Q, hQ⟩ : ∃ Q : Int, IntKind.u64.wrap ((v : Int) / (d : Int)) = Q := ⟨_, rfl⟩
  have hQ2 : Q = ((v / d : Nat) : Int) := by
    rw [← hQ, ← Int.natCast_ediv, IntKind.wrap_u64]
    generalize v / d = y at *
    omega
  have h7 : ¬ (4294967295 : Int) < Q := by omega
  have h8 : 0 ≤ Q := by rw [hQ2]; exact Int.natCast_nonneg _
  have HQ2 := Lib.hid hQ2
  have h9 : ¬ d = 0 := by omega
  clear hQ2 hq h
  go_enter Try.func35, Try.ntmps35
  go_wp2
  refine wp_region_still_lit (by kernel_rfl) (by kernel_rfl) ?_
  repeat ((with_reducible refine wpStill_step (fun K hK => ?_)); go_simp; (try go_bits); (with_reducible refine hK _ ?_); clear hK K)
  refine wpStill_nil ?_
  have hb := Below.one (w := w)
  generalize ({ w with drawn := w.drawn + 1 } : World) = w1 at hb ⊢
  go_wp2
  go_ret3
  refine ⟨?_, hb⟩
  show Ending.returned (.tuple #[.int .u32 Q, .int .u32 ((v : Int) % (d : Int)), .bool true]) = _
  rw [HQ2.out, Int.natCast_emod]

/-- What the document's SmRem answers. -/
def Bt.smRef (N M : Int) : Int × Int × Bool :=
  if M = 0 then (0, 0, false) else if N.tdiv M < -2147483648 ∨ 2147483647 < N.tdiv M then (0, 0, false) else (N.tdiv M % 4294967296, N.tmod M % 4294967296, true)
theorem Bt.tdiv_bd {N M : Int} (h1 : -9223372036854775808 ≤ N) (h2 : N ≤ 9223372036854775807) (hM : M ≠ 0) (hs : ¬ (N = -9223372036854775808 ∧ M = -1)) : -9223372036854775808 ≤ N.tdiv M ∧ N.tdiv M ≤ 9223372036854775807 := by
  have key : (N.tdiv M).natAbs ≤ N.natAbs := by rw [Int.natAbs_tdiv]; exact Nat.div_le_self _ _
  by_cases hN : N = -9223372036854775808
  · by_cases hM1 : M = 1
    · subst hM1 hN; decide
    · have h3 : 2 ≤ M.natAbs := by omega
      have key2 : (N.tdiv M).natAbs ≤ N.natAbs / 2 := by
        rw [Int.natAbs_tdiv]; exact Nat.div_le_div_left h3 (by omega)
      omega
  · omega
theorem Bt.tmod_bd {N M : Int} (h1 : -9223372036854775808 ≤ N) (h2 : N ≤ 9223372036854775807) : -9223372036854775808 ≤ N.tmod M ∧ N.tmod M ≤ 9223372036854775807 := by
  have key : (N.tmod M).natAbs ≤ N.natAbs := by rw [Int.natAbs_tmod]; exact Nat.mod_le _ _
  by_cases hN : N = -9223372036854775808
  · have : N.tmod M ≤ 0 := by
      rw [show N = -9223372036854775808 from hN, Int.neg_tmod]
      have := Int.tmod_nonneg M (show (0 : Int) ≤ 9223372036854775808 by omega)
      omega
    omega
  · omega
theorem Bt.special : (-9223372036854775808 : Int).tdiv (-1) = 9223372036854775808 := by decide
theorem Bt.special64 : wrap64 9223372036854775808 = -9223372036854775808 := by unfold wrap64; omega
set_option maxRecDepth 100000 in
set_option maxHeartbeats 1000000 in
theorem refsm_any (v d : Nat) (w : World) (hv : v < 18446744073709551616) (hd : d < 4294967296) :
    Calls Try.prog 37 #[.int .u64 v, .int .u32 d] w fun e w' => e = .returned (.tuple #[.int .u32 (Bt.smRef (Bt.sgn64 v) (Bt.sgn d)).1, .int .u32 (Bt.smRef (Bt.sgn64 v) (Bt.sgn d)).2.1, .bool (Bt.smRef (Bt.sgn64 v) (Bt.sgn d)).2.2]) ∧ Below w.heap.size w w' := by
  by_cases h0 : d = 0
  · subst h0
    go_enter Try.func37, Try.ntmps37
    go_wp2
    go_ret3
    exact ⟨rfl, Below.refl _ _⟩
  · have HS := Lib.hid (fun w => signed_any d w hd)
    have hM0 : Bt.sgn d ≠ 0 := by unfold Bt.sgn; split <;> omega
    have hMb := Bt.sgn_bd hd
    have hNb := Bt.sgn64_bd hv
    have hN := Bt.wrap64_eq hv
    have h3 : ((d : Int) == 0) = false := by simp; omega
    generalize Bt.sgn d = M at *
    generalize Bt.sgn64 v = N at *
    obtain ⟨hN1, hN2⟩ := hNb
    obtain ⟨hM1, hM2⟩ := hMb
    have HV := Lib.hid hv; have HD := Lib.hid hd; clear hv hd h0
    obtain ⟨Q, hQ⟩ : ∃ Q : Int, wrap64 (N.tdiv M) = Q := ⟨_, rfl⟩
    obtain ⟨NN, hNN⟩ : ∃ NN : Int, wrap64 (-N) = NN := ⟨_, rfl⟩
    have HX := Lib.hid (show Bt.smRef N M = if Q < -2147483648 ∨ 2147483647 < Q then (0, 0, false) else (Q % 4294967296, N.tmod M % 4294967296, true) by
      rw [Bt.smRef, if_neg hM0, ← hQ]
      by_cases hs : N = -9223372036854775808 ∧ M = -1
      · obtain ⟨rfl, rfl⟩ := hs
        rw [Bt.special, Bt.special64, if_pos (.inr (by omega)), if_pos (.inl (by omega))]
      · have := Bt.tdiv_bd hN1 hN2 hM0 hs
        rw [IntWalk.wrap64_in _ (by omega)])
    have hne : (Q < -2147483648 ∨ 2147483647 < Q) ∨ ¬ (N = NN ∧ N < 0 ∧ M = -1) := by
      by_cases hs : N = -9223372036854775808 ∧ M = -1
      · obtain ⟨rfl, rfl⟩ := hs
        left; left; rw [← hQ, Bt.special, Bt.special64]; omega
      · right; rintro ⟨k1, k2, k3⟩
        apply hs
        rw [← hNN] at k1
        unfold wrap64 at k1
        omega
    have HN1 := Lib.hid hN1; have HN2 := Lib.hid hN2
    clear hN1 hN2
    by_cases c1 : Q < -2147483648
    · rw [if_pos (.inl c1)] at HX
      clear hne
      go_enter Try.func37, Try.ntmps37
      go_wp2_with (go_at_call 32; refine (HS.out _).mono ?_; rintro e w' ⟨rfl, rfl⟩)
      go_ret3
      exact ⟨by rw [HX.out]; rfl, Below.refl _ _⟩
    by_cases c2 : 2147483647 < Q
    · rw [if_pos (.inr c2)] at HX
      clear hne
      go_enter Try.func37, Try.ntmps37
      go_wp2_with (go_at_call 32; refine (HS.out _).mono ?_; rintro e w' ⟨rfl, rfl⟩)
      go_ret3
      exact ⟨by rw [HX.out]; rfl, Below.refl _ _⟩
    rw [if_neg (by omega)] at HX
    have hne' : ¬ (N = NN ∧ N < 0 ∧ M = -1) := by exact hne.resolve_left (by omega)
    clear hne
    have hR : IntKind.i64.wrap (N.tmod M) = N.tmod M := IntWalk.i64_in _ (Bt.tmod_bd HN1.out HN2.out)
    have hcase : (N == NN) = false ∨ ((N == NN) = true ∧ ¬ N < 0) ∨ ((N == NN) = true ∧ N < 0 ∧ (M == -1) = false) := by
      by_cases k1 : N = NN
      · by_cases k2 : N < 0
        · exact .inr (.inr ⟨by simpa using k1, k2, by simpa using fun k3 => hne' ⟨k1, k2, k3⟩⟩)
        · exact .inr (.inl ⟨by simpa using k1, k2⟩)
      · exact .inl (by simpa using k1)
    clear hne'
    rcases hcase with k | ⟨k, k2⟩ | ⟨k, k2, k3⟩
    all_goals
      go_enter Try.func37, Try.ntmps37
      go_wp2_with (go_at_call 32; refine (HS.out _).mono ?_; rintro e w' ⟨rfl, rfl⟩)
      refine wp_region_still_lit (by kernel_rfl) (by kernel_rfl) ?_
      repeat ((with_reducible refine wpStill_step (fun K hK => ?_)); go_simp; (try go_bits); (with_reducible refine hK _ ?_); clear hK K)
      still_call (still_of (HS.out _))
      repeat ((with_reducible refine wpStill_step (fun K hK => ?_)); go_simp; (try go_bits); (with_reducible refine hK _ ?_); clear hK K)
      refine wpStill_nil ?_
      have hb := Below.one (w := w)
      generalize ({ w with drawn := w.drawn + 1 } : World) = w1 at hb ⊢
      go_wp2
      go_ret3
      refine ⟨?_, hb⟩
      rw [HX.out]
      first | rfl | (rw [Int.tmod_eq_emod_of_nonneg (by omega)]; rfl)

/-- What the document's FmMod answers. -/
def Bt.fmQ (N M : Int) : Int := if N.tmod M ≠ 0 ∧ (decide (N.tmod M < 0) != decide (M < 0)) = true then N.tdiv M - 1 else N.tdiv M
def Bt.fmR (N M : Int) : Int := if N.tmod M ≠ 0 ∧ (decide (N.tmod M < 0) != decide (M < 0)) = true then N.tmod M + M else N.tmod M
def Bt.fmRef (N M : Int) : Int × Int × Bool :=
  if M = 0 ∨ (N = -9223372036854775808 ∧ M = -1) then (0, 0, false) else if Bt.fmQ N M < -2147483648 ∨ 2147483647 < Bt.fmQ N M then (0, 0, false) else (Bt.fmQ N M % 4294967296, Bt.fmR N M % 4294967296, true)
theorem Bt.ret_t3 {q r : Int} {b : Bool} {t : Int × Int × Bool} (h : (q, r, b) = t) : Ending.returned (.tuple #[.int .u32 q, .int .u32 r, .bool b]) = .returned (.tuple #[.int .u32 t.1, .int .u32 t.2.1, .bool t.2.2]) := by subst h; rfl
theorem Bt.t3 {q q' r r' : Int} {b b' : Bool} (h1 : q = q') (h2 : r = r') (h3 : b = b') : (q, r, b) = (q', r', b') := by rw [h1, h2, h3]
theorem Bt.fm_c1 {N M R Q : Int} {t : Int × Int × Bool} (h : (R != 0) = true ∧ (!decide (R < 0) == decide (M < 0)) = true) (hR : N.tmod M = R) (hQ : N.tdiv M = Q)
    (hx : Bt.fmRef N M = if Bt.fmQ N M < -2147483648 ∨ 2147483647 < Bt.fmQ N M then (0, 0, false) else (Bt.fmQ N M % 4294967296, Bt.fmR N M % 4294967296, true))
    (k : t = if Q - 1 < -2147483648 ∨ 2147483647 < Q - 1 then (0, 0, false) else ((Q - 1) % 4294967296, (R + M) % 4294967296, true)) : t = Bt.fmRef N M := by
  have c : N.tmod M ≠ 0 ∧ (decide (N.tmod M < 0) != decide (M < 0)) = true := by
    rw [hR]
    obtain ⟨h1, h2⟩ := h
    refine ⟨by simpa using h1, ?_⟩
    revert h2
    cases decide (R < 0) <;> cases decide (M < 0) <;> simp
  rw [hx, Bt.fmQ, Bt.fmR, if_pos c, if_pos c, hQ, hR]
  exact k
theorem Bt.fm_c2 {N M R Q : Int} {t : Int × Int × Bool} (h : (R != 0) = false ∨ (!decide (R < 0) == decide (M < 0)) = false) (hR : N.tmod M = R) (hQ : N.tdiv M = Q)
    (hx : Bt.fmRef N M = if Bt.fmQ N M < -2147483648 ∨ 2147483647 < Bt.fmQ N M then (0, 0, false) else (Bt.fmQ N M % 4294967296, Bt.fmR N M % 4294967296, true))
    (k : t = if Q < -2147483648 ∨ 2147483647 < Q then (0, 0, false) else (Q % 4294967296, R % 4294967296, true)) : t = Bt.fmRef N M := by
  have c : ¬ (N.tmod M ≠ 0 ∧ (decide (N.tmod M < 0) != decide (M < 0)) = true) := by
    rw [hR]
    rintro ⟨h1, h2⟩
    rcases h with h | h
    · exact h1 (by simpa using h)
    · revert h h2
      cases decide (R < 0) <;> cases decide (M < 0) <;> simp
  rw [hx, Bt.fmQ, Bt.fmR, if_neg c, if_neg c, hQ, hR]
  exact k
theorem Bt.fm_c3 {N M R Q : Int} {t : Int × Int × Bool} (h : R = 0) (hR : N.tmod M = R) (hQ : N.tdiv M = Q)
    (hx : Bt.fmRef N M = if Bt.fmQ N M < -2147483648 ∨ 2147483647 < Bt.fmQ N M then (0, 0, false) else (Bt.fmQ N M % 4294967296, Bt.fmR N M % 4294967296, true))
    (k : t = if Q < -2147483648 ∨ 2147483647 < Q then (0, 0, false) else (Q % 4294967296, 0, true)) : t = Bt.fmRef N M := by
  refine Bt.fm_c2 (R := R) (.inl (by simp [h])) hR hQ hx ?_
  subst h
  exact k
set_option maxRecDepth 100000 in
set_option maxHeartbeats 1000000 in
theorem reffm_any (v d : Nat) (w : World) (hv : v < 18446744073709551616) (hd : d < 4294967296) :
    Calls Try.prog 39 #[.int .u64 v, .int .u32 d] w fun e w' => e = .returned (.tuple #[.int .u32 (Bt.fmRef (Bt.sgn64 v) (Bt.sgn d)).1, .int .u32 (Bt.fmRef (Bt.sgn64 v) (Bt.sgn d)).2.1, .bool (Bt.fmRef (Bt.sgn64 v) (Bt.sgn d)).2.2]) ∧ Below w.heap.size w w' := by
  by_cases h0 : d = 0
  · subst h0
    go_enter Try.func39, Try.ntmps39
    go_wp2
    go_ret3
    exact ⟨rfl, Below.refl _ _⟩
  · have HS := Lib.hid (fun w => signed_any d w hd)
    have hM0 : Bt.sgn d ≠ 0 := by unfold Bt.sgn; split <;> omega
    have hMb := Bt.sgn_bd hd
    have hNb := Bt.sgn64_bd hv
    have hN := Bt.wrap64_eq hv
    have h3 : ((d : Int) == 0) = false := by simp; omega
    generalize Bt.sgn d = M at *
    generalize Bt.sgn64 v = N at *
    obtain ⟨hN1, hN2⟩ := hNb
    obtain ⟨hM1, hM2⟩ := hMb
    have HV := Lib.hid hv; have HD := Lib.hid hd; clear hv hd h0
    by_cases hs : N = -9223372036854775808 ∧ M = -1
    · obtain ⟨hs1, rfl⟩ := hs
      have HX := Lib.hid (show Bt.fmRef N (-1) = (0, 0, false) by rw [Bt.fmRef, if_pos (.inr ⟨hs1, rfl⟩)])
      obtain ⟨NN, hNN⟩ : ∃ NN : Int, wrap64 (-N) = NN := ⟨_, rfl⟩
      have k1 : (N == NN) = true := by rw [beq_iff_eq, ← hNN, hs1]; unfold wrap64; omega
      have k2 : N < 0 := by omega
      clear hN1 hN2 hs1
      go_enter Try.func39, Try.ntmps39
      go_wp2_with (go_at_call 32; refine (HS.out _).mono ?_; rintro e w' ⟨rfl, rfl⟩)
      go_ret3
      exact ⟨by rw [HX.out]; rfl, Below.refl _ _⟩
    · obtain ⟨NN, hNN⟩ : ∃ NN : Int, wrap64 (-N) = NN := ⟨_, rfl⟩
      have hcase : (N == NN) = false ∨ ((N == NN) = true ∧ ¬ N < 0) ∨ ((N == NN) = true ∧ N < 0 ∧ (M == -1) = false) := by
        by_cases k1 : N = NN
        · by_cases k2 : N < 0
          · refine .inr (.inr ⟨by simpa using k1, k2, ?_⟩)
            rw [beq_eq_false_iff_ne]
            intro k3
            rw [← hNN] at k1
            unfold wrap64 at k1
            exact hs ⟨by omega, k3⟩
          · exact .inr (.inl ⟨by simpa using k1, k2⟩)
        · exact .inl (by simpa using k1)
      have hqb := Bt.tdiv_bd hN1 hN2 hM0 hs
      have hrb := Bt.tmod_bd (M := M) hN1 hN2
      have HX := Lib.hid (show Bt.fmRef N M = if Bt.fmQ N M < -2147483648 ∨ 2147483647 < Bt.fmQ N M then (0, 0, false) else (Bt.fmQ N M % 4294967296, Bt.fmR N M % 4294967296, true) by
        rw [Bt.fmRef, if_neg (by omega)])
      have HQ := Lib.hid (show Bt.fmQ N M = if N.tmod M ≠ 0 ∧ (decide (N.tmod M < 0) != decide (M < 0)) = true then N.tdiv M - 1 else N.tdiv M from rfl)
      have HR := Lib.hid (show Bt.fmR N M = if N.tmod M ≠ 0 ∧ (decide (N.tmod M < 0) != decide (M < 0)) = true then N.tmod M + M else N.tmod M from rfl)
      obtain ⟨Q, hQ⟩ : ∃ Q : Int, N.tdiv M = Q := ⟨_, rfl⟩
      obtain ⟨R, hR⟩ : ∃ R : Int, N.tmod M = R := ⟨_, rfl⟩
      rw [hQ] at hqb HQ
      rw [hR] at hrb HR HQ
      have hq64 : wrap64 (N.tdiv M) = Q := by rw [hQ]; exact IntWalk.wrap64_in _ hqb
      have hr64 : IntKind.i64.wrap (N.tmod M) = R := by rw [hR]; exact IntWalk.i64_in _ hrb
      have hrM : N < 0 ∨ N % M = R := by
        by_cases k : N < 0
        · exact .inl k
        · exact .inr (by rw [← Int.tmod_eq_emod_of_nonneg (by omega), hR])
      have HB := Lib.hid hqb; have HRB := Lib.hid hrb; have HN1 := Lib.hid hN1; have HN2 := Lib.hid hN2; have HRM := Lib.hid hrM
      have HQE := Lib.hid hQ; have HRE := Lib.hid hR
      clear hs hqb hrb hN1 hN2 hrM hQ hR
      rcases hcase with k | ⟨k, k2⟩ | ⟨k, k2, k3⟩
      all_goals
        go_enter Try.func39, Try.ntmps39
        go_wp2_with (go_at_call 32; refine (HS.out _).mono ?_; rintro e w' ⟨rfl, rfl⟩)
      all_goals go_ret3
      all_goals
        refine ⟨Bt.ret_t3 (t := Bt.fmRef N M) ?_, Below.refl _ _⟩
        have hb := HB.out
        have hrb := HRB.out
        first
          | refine Bt.fm_c1 (by assumption) (by first | rfl | exact Int.tmod_eq_emod_of_nonneg (by omega)) HQE.out HX.out ?_
          | refine Bt.fm_c2 (by assumption) (by first | rfl | exact Int.tmod_eq_emod_of_nonneg (by omega)) HQE.out HX.out ?_
          | refine Bt.fm_c3 (by assumption) (by first | rfl | exact Int.tmod_eq_emod_of_nonneg (by omega)) HQE.out HX.out ?_
        have hre := HRE.out
        have hrm := HRM.out
        split
        all_goals first
          | rfl
          | (exfalso; unfold wrap64 at *; omega)
          | (refine Bt.t3 ?_ ?_ rfl <;> first | rfl | (unfold wrap64 at *; omega))

end Go.Proofs.Ytijekhdndegdaaa
