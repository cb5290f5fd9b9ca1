/- The walk of bits.FmMod. -/
import Derived.Test.YtijekhdndegdaaaBtWalks
namespace Go.Proofs.Ytijekhdndegdaaa
open Go.RowKit
set_option linter.unusedVariables false
set_option linter.unusedSimpArgs false

/-- What FmMod answers, of sizes and signs. -/
def Bt.fmBig (n m : Nat) (low below : Bool) : Nat := if low ≠ below ∧ n % m ≠ 0 then n / m + 1 else n / m
def Bt.fmRest (n m : Nat) (low below : Bool) : Nat := if low ≠ below ∧ n % m ≠ 0 then m - n % m else n % m
def Bt.fmOut (n m : Nat) (low below : Bool) : Int × Int × Bool :=
  if n / 4294967296 < m ∧ (Bt.fmBig n m low below ≤ 2147483647 ∨ low ≠ below ∧ Bt.fmBig n m low below ≤ 2147483648) then
    ((if low ≠ below then (-(Bt.fmBig n m low below : Nat) : Int) else (Bt.fmBig n m low below : Nat)) % 4294967296, (if below then (-(Bt.fmRest n m low below : Nat) : Int) else (Bt.fmRest n m low below : Nat)) % 4294967296, true)
  else (0, 0, false)
set_option maxRecDepth 100000 in
set_option maxHeartbeats 2000000 in
theorem fmmod_core (v d n m : Nat) (low below : Bool) (w : World) (hn : SizeAt v n low) (hm : SizeAt (Bt.wide d) m below) (hn1 : n ≤ 9223372036854775808) (hm1 : m ≤ 2147483648) (hd : d < 4294967296) :
    Calls Try.prog 38 #[.int .u64 v, .int .u32 d] w fun e w' => e = .returned (.tuple #[.int .u32 (Bt.fmOut n m low below).1, .int .u32 (Bt.fmOut n m low below).2.1, .bool (Bt.fmOut n m low below).2.2]) ∧ Below w.heap.size w w' := by
  by_cases hok : n / 4294967296 < m
  · have hq := Bt.umq_lt (v := n) (d := m)
    rw [Bt.umq, if_pos hok] at hq
    have hr := Nat.mod_lt n (show 0 < m by omega)
    have HC := fun w => ummod_yes n m w (by omega) (by omega) hok
    have HF := Lib.hid (show Bt.fmOut n m low below = if Bt.fmBig n m low below ≤ 2147483647 ∨ low ≠ below ∧ Bt.fmBig n m low below ≤ 2147483648 then
      ((if low ≠ below then (-(Bt.fmBig n m low below : Nat) : Int) else (Bt.fmBig n m low below : Nat)) % 4294967296, (if below then (-(Bt.fmRest n m low below : Nat) : Int) else (Bt.fmRest n m low below : Nat)) % 4294967296, true)
      else (0, 0, false) by simp only [Bt.fmOut, hok, true_and])
    unfold Bt.fmBig Bt.fmRest at HF
    generalize n / m = q at *
    generalize n % m = r at *
    have HC := Lib.hid HC
    by_cases hr0 : r = 0
    · subst hr0
      simp only [ne_eq, not_true_eq_false, and_false, ite_false, ↓reduceIte] at HF
      by_cases hlim : q ≤ 2147483647 ∨ low ≠ below ∧ q ≤ 2147483648
      all_goals
        (first | rw [if_pos hlim] at HF | rw [if_neg hlim] at HF)
        cases low <;> cases below <;> simp only [ne_eq, reduceCtorEq, not_true_eq_false, not_false_eq_true, false_and, true_and, or_false, ite_true, ite_false, Bool.false_eq_true, ↓reduceIte, not_or, Nat.not_le] at hlim HF
        all_goals
          go_enter Try.func38, Try.ntmps38
          go_wp2_with fail
          refine (hn _).mono ?_
          rintro e w' ⟨rfl, rfl⟩
          go_wp2_with fail
          refine (hm _).mono ?_
          rintro e w' ⟨rfl, rfl⟩
          go_wp2_with fail
          refine (HC.out _).mono ?_
          rintro e w1 ⟨rfl, hb⟩
          go_wp2
          go_ret3
          refine ⟨?_, hb⟩
          rw [HF.out]
          exact ret3_eq (by first | (dsimp only; done) | (dsimp only; omega) | (simp only [IntKind.wrap_u64]; omega)) (by first | (dsimp only; done) | (dsimp only; omega) | (simp only [IntKind.wrap_u64]; omega))
    · have HQ0 := Lib.hid (show 0 < r by omega)
      simp only [ne_eq, hr0, not_false_eq_true, and_true] at HF
      have HCi := HC.out
      clear HC
      have hQb : (0 : Int) ≤ q ∧ (q : Int) < 4294967296 := by omega
      have hRb : (0 : Int) < r ∧ (r : Int) < m := by omega
      obtain ⟨Q, hQ⟩ : ∃ Q : Int, (q : Int) = Q := ⟨_, rfl⟩
      obtain ⟨R, hR⟩ : ∃ R : Int, (r : Int) = R := ⟨_, rfl⟩
      rw [hQ] at hQb
      rw [hR] at hRb
      simp only [hQ, hR] at HCi
      have HC2 := Lib.hid HCi; have HQ := Lib.hid hQ; have HR := Lib.hid hR
      obtain ⟨hQ0, hQ1⟩ := hQb
      obtain ⟨hR0, hR1⟩ := hRb
      have z1 : (R != 0) = true := by simp; omega
      clear HCi hQ hR hq hr hr0
      cases low <;> cases below <;> simp only [reduceCtorEq, not_true_eq_false, not_false_eq_true, false_and, true_and, or_false, ite_true, ite_false, Bool.false_eq_true, ↓reduceIte] at HF
      all_goals
        by_cases hb1 : Q ≤ 2147483646
        · (first | rw [if_pos (by have := HQ.out; omega)] at HF | rw [if_neg (by have := HQ.out; omega)] at HF)
          go_enter Try.func38, Try.ntmps38
          go_wp2_with fail
          refine (hn _).mono ?_
          rintro e w' ⟨rfl, rfl⟩
          go_wp2_with fail
          refine (hm _).mono ?_
          rintro e w' ⟨rfl, rfl⟩
          go_wp2_with fail
          refine (HC2.out _).mono ?_
          rintro e w1 ⟨rfl, hb⟩
          go_wp2
          go_ret3
          refine ⟨?_, hb⟩
          have hQ := HQ.out
          have hR := HR.out
          rw [HF.out]
          exact ret3_eq (by first | (dsimp only; done) | (dsimp only; omega) | (simp only [IntKind.wrap_u64]; omega)) (by first | (dsimp only; done) | (dsimp only; omega) | (simp only [IntKind.wrap_u64]; omega))
        by_cases hb2 : Q ≤ 2147483647
        · have hb4 : 2147483647 ≤ Q := by omega
          clear hb1
          (first | rw [if_pos (by have := HQ.out; omega)] at HF | rw [if_neg (by have := HQ.out; omega)] at HF)
          go_enter Try.func38, Try.ntmps38
          go_wp2_with fail
          refine (hn _).mono ?_
          rintro e w' ⟨rfl, rfl⟩
          go_wp2_with fail
          refine (hm _).mono ?_
          rintro e w' ⟨rfl, rfl⟩
          go_wp2_with fail
          refine (HC2.out _).mono ?_
          rintro e w1 ⟨rfl, hb⟩
          go_wp2
          go_ret3
          refine ⟨?_, hb⟩
          have hQ := HQ.out
          have hR := HR.out
          rw [HF.out]
          exact ret3_eq (by first | (dsimp only; done) | (dsimp only; omega) | (simp only [IntKind.wrap_u64]; omega)) (by first | (dsimp only; done) | (dsimp only; omega) | (simp only [IntKind.wrap_u64]; omega))
        · have hb3 : 2147483648 ≤ Q := by omega
          clear hb1 hb2
          rw [if_neg (by have := HQ.out; omega)] at HF
          go_enter Try.func38, Try.ntmps38
          go_wp2_with fail
          refine (hn _).mono ?_
          rintro e w' ⟨rfl, rfl⟩
          go_wp2_with fail
          refine (hm _).mono ?_
          rintro e w' ⟨rfl, rfl⟩
          go_wp2_with fail
          refine (HC2.out _).mono ?_
          rintro e w1 ⟨rfl, hb⟩
          go_wp2
          go_ret3
          refine ⟨?_, hb⟩
          have hQ := HQ.out
          have hR := HR.out
          rw [HF.out]
          exact ret3_eq (by first | (dsimp only; done) | (dsimp only; omega) | (simp only [IntKind.wrap_u64]; omega)) (by first | (dsimp only; done) | (dsimp only; omega) | (simp only [IntKind.wrap_u64]; omega))
  · have HF := Lib.hid (show Bt.fmOut n m low below = (0, 0, false) by rw [Bt.fmOut, if_neg (by omega)])
    cases low <;> cases below <;>
    (go_enter Try.func38, Try.ntmps38
     go_wp2_with fail
     refine (hn _).mono ?_
     rintro e w' ⟨rfl, rfl⟩
     go_wp2_with fail
     refine (hm _).mono ?_
     rintro e w' ⟨rfl, rfl⟩
     go_wp2_with fail
     refine (ummod_no n m _ (by omega) (by omega) hok).mono ?_
     rintro e w1 ⟨rfl, hb⟩
     go_wp2
     go_ret3
     refine ⟨?_, hb⟩
     rw [HF.out]
     rfl)

end Go.Proofs.Ytijekhdndegdaaa
