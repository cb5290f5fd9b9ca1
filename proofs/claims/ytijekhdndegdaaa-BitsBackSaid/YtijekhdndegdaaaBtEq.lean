/- The divisions of doubles: own answers are the document's. -/
import Derived.Test.YtijekhdndegdaaaBtRef
import Derived.Test.YtijekhdndegdaaaBtLaws
namespace Go.Proofs.Ytijekhdndegdaaa
open Go.RowKit
set_option linter.unusedVariables false
set_option linter.unusedSimpArgs false

theorem Bt.tdiv_sizes (n m : Nat) (low below : Bool) : (if low = true then -(n : Int) else n).tdiv (if below = true then -(m : Int) else m) = if low ≠ below then -((n / m : Nat) : Int) else ((n / m : Nat) : Int) := by
  have h : ((n / m : Nat) : Int) = (n : Int).tdiv m := (Int.ofNat_tdiv n m)
  rw [h]
  cases low <;> cases below <;> simp [Int.neg_tdiv, Int.tdiv_neg]
theorem Bt.tmod_sizes (n m : Nat) (low below : Bool) : (if low = true then -(n : Int) else n).tmod (if below = true then -(m : Int) else m) = if low = true then -((n % m : Nat) : Int) else ((n % m : Nat) : Int) := by
  have h : ((n % m : Nat) : Int) = (n : Int).tmod m := (Int.ofNat_tmod n m)
  rw [h]
  cases low <;> cases below <;> simp [Int.neg_tmod, Int.tmod_neg]
theorem Bt.small_q {n m : Nat} (hm : m ≠ 0) (h : n / m ≤ 2147483648) : n / 4294967296 < m := by
  have h1 : n / m < 4294967296 := by omega
  rw [Nat.div_lt_iff_lt_mul (by omega)] at h1
  rw [Nat.div_lt_iff_lt_mul (by omega)]
  rw [Nat.mul_comm]; exact h1
theorem Bt.sm_eq (n m : Nat) (low below : Bool) (hb : below = true → 0 < m) :
    Bt.smOut n m low below = Bt.smRef (if low = true then -(n : Int) else n) (if below = true then -(m : Int) else m) := by
  unfold Bt.smRef
  by_cases hm : m = 0
  · subst hm
    have : below = false := by cases below; rfl; exact absurd (hb rfl) (by omega)
    subst this
    rw [Bt.smOut, if_neg (by omega), if_pos (by simp)]
  · rw [if_neg (by cases below <;> simp <;> omega), Bt.tdiv_sizes, Bt.tmod_sizes, Bt.smOut]
    have hsq := Bt.small_q (n := n) hm
    generalize n / m = q at *
    generalize n % m = r at *
    cases low <;> cases below <;> simp only [ne_eq, reduceCtorEq, not_true_eq_false, not_false_eq_true, false_and, true_and, or_false, ite_true, ite_false, Bool.false_eq_true, ↓reduceIte]
    all_goals
      split
      · rw [if_neg (by omega)]
      · rename_i k
        rw [if_pos]
        by_cases q ≤ 2147483648
        · have := hsq (by omega)
          omega
        · omega
theorem Bt.fm_eq (n m : Nat) (low below : Bool) (hn : n ≤ 9223372036854775808) (hl : low = true → 0 < n) (hb : below = true → 0 < m) :
    Bt.fmOut n m low below = Bt.fmRef (if low = true then -(n : Int) else n) (if below = true then -(m : Int) else m) := by
  unfold Bt.fmRef
  by_cases hm : m = 0
  · subst hm
    have : below = false := by cases below; rfl; exact absurd (hb rfl) (by omega)
    subst this
    rw [Bt.fmOut, if_neg (by omega), if_pos (by simp)]
  · by_cases hs : n = 9223372036854775808 ∧ low = true ∧ m = 1 ∧ below = true
    · obtain ⟨rfl, rfl, rfl, rfl⟩ := hs
      decide
    · rw [if_neg (by cases low <;> cases below <;> simp <;> simp at hs <;> omega), Bt.fmQ, Bt.fmR, Bt.tdiv_sizes, Bt.tmod_sizes, Bt.fmOut, Bt.fmBig, Bt.fmRest]
      have hsq := Bt.small_q (n := n) hm
      have hr := Nat.mod_lt n (show 0 < m by omega)
      generalize n / m = q at *
      generalize n % m = r at *
      clear hl hn
      by_cases hr0 : r = 0
      · subst hr0
        cases low <;> cases below <;> simp only [ne_eq, reduceCtorEq, not_true_eq_false, not_false_eq_true, false_and, and_false, true_and, or_false, ite_true, ite_false, Bool.false_eq_true, ↓reduceIte, Int.natCast_zero, Int.neg_zero, Int.ofNat_zero]
        all_goals
          split
          · rw [if_neg (by omega)]
          · rename_i k
            rw [if_pos]
            by_cases q ≤ 2147483648
            · have := hsq (by omega)
              omega
            · omega
      · have e1 : ((r : Int) < 0) = False := by simp
        have e2 : (-(r : Int) < 0) = True := by simp; omega
        have e3 : ((m : Int) < 0) = False := by simp
        have e4 : (-(m : Int) < 0) = True := by simp; omega
        have e5 : ((r : Int) = 0) = False := by simp; omega
        have e6 : (-(r : Int) = 0) = False := by simp; omega
        cases low <;> cases below <;> simp only [e1, e2, e3, e4, e5, e6, hr0, ne_eq, reduceCtorEq, not_true_eq_false, not_false_eq_true, false_and, and_false, true_and, and_true, or_false, ite_true, ite_false, Bool.false_eq_true, ↓reduceIte, decide_true, decide_false, bne_self_eq_false, Bool.true_bne, Bool.false_bne, Bool.not_false, Bool.not_true]
        all_goals
          split
          · rw [if_neg (by omega)]
            try (refine Bt.t3 ?_ ?_ rfl <;> omega)
          · rename_i k
            rw [if_pos]
            by_cases q ≤ 2147483648
            · have := hsq (by omega)
              omega
            · omega

/-- Unsigned division's answer. -/
def Bt.umT (v d : Nat) : Int × Int × Bool := if v / 4294967296 < d then (((v / d : Nat) : Int), ((v % d : Nat) : Int), true) else (0, 0, false)
def Bt.out (t : Int × Int × Bool) : Value := .tuple #[.int .u32 t.1, .int .u32 t.2.1, .bool t.2.2]
theorem um_own (v d : Nat) (w : World) (hv : v < 18446744073709551616) (hd : d < 4294967296) :
    Calls Try.prog 34 #[.int .u64 v, .int .u32 d] w fun e w' => e = .returned (Bt.out (Bt.umT v d)) ∧ Below w.heap.size w w' := by
  by_cases h : v / 4294967296 < d
  · rw [Bt.umT, if_pos h]; exact ummod_yes v d w hv hd h
  · rw [Bt.umT, if_neg h]; exact ummod_no v d w hv hd h
theorem um_ref (v d : Nat) (w : World) (hv : v < 18446744073709551616) (hd : d < 4294967296) :
    Calls Try.prog 35 #[.int .u64 v, .int .u32 d] w fun e w' => e = .returned (Bt.out (Bt.umT v d)) ∧ Below w.heap.size w w' := by
  by_cases h : v / 4294967296 < d
  · rw [Bt.umT, if_pos h]; exact refum_yes v d w hv hd h
  · rw [Bt.umT, if_neg h]; exact refum_no v d w hv hd h
theorem sm_own (v d : Nat) (w : World) (hv : v < 18446744073709551616) (hd : d < 4294967296) :
    Calls Try.prog 36 #[.int .u64 v, .int .u32 d] w fun e w' => e = .returned (Bt.out (Bt.smRef (Bt.sgn64 v) (Bt.sgn d))) ∧ Below w.heap.size w w' := by
  obtain ⟨n, low, h1, h2, h3, h4⟩ := sizeAt_v v hv
  obtain ⟨m, below, k1, k2, k3, k4⟩ := sizeAt_d d hd
  rw [h3, k3, ← Bt.sm_eq n m low below k4]
  exact smrem_core v d n m low below w h1 k1 h2 k2 hd
theorem sm_ref (v d : Nat) (w : World) (hv : v < 18446744073709551616) (hd : d < 4294967296) :
    Calls Try.prog 37 #[.int .u64 v, .int .u32 d] w fun e w' => e = .returned (Bt.out (Bt.smRef (Bt.sgn64 v) (Bt.sgn d))) ∧ Below w.heap.size w w' := refsm_any v d w hv hd
theorem fm_own (v d : Nat) (w : World) (hv : v < 18446744073709551616) (hd : d < 4294967296) :
    Calls Try.prog 38 #[.int .u64 v, .int .u32 d] w fun e w' => e = .returned (Bt.out (Bt.fmRef (Bt.sgn64 v) (Bt.sgn d))) ∧ Below w.heap.size w w' := by
  obtain ⟨n, low, h1, h2, h3, h4⟩ := sizeAt_v v hv
  obtain ⟨m, below, k1, k2, k3, k4⟩ := sizeAt_d d hd
  rw [h3, k3, ← Bt.fm_eq n m low below h2 h4 k4]
  exact fmmod_core v d n m low below w h1 k1 h2 k2 hd
theorem fm_ref (v d : Nat) (w : World) (hv : v < 18446744073709551616) (hd : d < 4294967296) :
    Calls Try.prog 39 #[.int .u64 v, .int .u32 d] w fun e w' => e = .returned (Bt.out (Bt.fmRef (Bt.sgn64 v) (Bt.sgn d))) ∧ Below w.heap.size w w' := reffm_any v d w hv hd

end Go.Proofs.Ytijekhdndegdaaa
