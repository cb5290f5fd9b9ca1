/- Walks: Bytes; what is told of no memory. -/
import Derived.Test.YtijekhdndegdaaaMmRest
namespace Go.Proofs.Ytijekhdndegdaaa
open Go.RowKit Kit
set_option linter.unusedVariables false
set_option linter.unusedSimpArgs false

/-- What 'Bytes' answers. -/
def Mm.bytesL (b : List UInt8) (a : Nat) (n : Int) : List UInt8 := if 0 ≤ n ∧ (a : Int) + n ≤ b.length then Mm.get b a n.toNat else []
theorem bytes_own (w : World) (gm gb : Nat) (b : List UInt8) (hs : List (Nat × Nat)) (a : Nat) (n : Int) (ha : a < 4294967296) (h : OwnM w gm gb b hs) :
    Calls Try.prog 23 #[.pointer (some ⟨gm, 0, none⟩), .int .u32 a, .int .i64 n] w fun e w' => ∃ v', e = .returned v' ∧ OwnB 5 w.heap.size w' v' (Mm.bytesL b a n) ∧ Below w.heap.size w w' := by
  obtain ⟨A, c, cap, c0, c1, hrw, hcm, hgm, hne⟩ := h.cells
  have hcap := hrw.le
  have HRW := Lib.hid hrw
  have hhi := h.hi
  have hN := Lib.hid (none_own w gm gb _ _ c0)
  have hT := there_own w gm gb _ _ a n h.hi ha c0
  have HM := Lib.hid h
  clear c1 h hrw
  by_cases hin : 0 ≤ n ∧ (a : Int) + n ≤ b.length
  · obtain ⟨h0, h1⟩ := hin
    obtain ⟨k, rfl⟩ := Int.eq_ofNat_of_zero_le h0
    have e2 : Mm.bytesL b a k = Mm.get b a k := by unfold Mm.bytesL; rw [if_pos ⟨h0, h1⟩, Int.toNat_natCast]
    rw [e2]
    rw [Mm.thereB_nat, show decide (a + k ≤ b.length) = true by simp; omega] at hT
    have HT := Lib.hid hT
    have hbi : (b.length : Int) ≤ 1048576 := by omega
    have hai : (a : Int) ≤ b.length := by omega
    have hak : (a : Int) ≤ (a : Int) + k := by omega
    clear hT e2
    have hlen : (Mm.get b a k).length = k := Mm.get_length b a k (by omega)
    by_cases hl0 : cap = a
    · have hk : k = 0 := by omega
      subst hk
      have HG := Lib.hid (show Mm.get b a 0 = [] by simp [Mm.get])
      have HC := Lib.hid (fun W => cloneB W ⟨gb, 0, none⟩ 0 0 [] (.inl ⟨_, _, rfl, rfl⟩) (by simp))
      have hba : b.length = a := by omega
      generalize b.length = len at *
      clear hlen
      subst hl0 hba
      go_enter Try.func23, Try.ntmps23
      go_wp2_with (first | (go_at_call 70; refine hN.out.mono ?_; rintro e w' ⟨rfl, rfl⟩) | (go_at_call 71; refine HT.out.mono ?_; rintro e w' ⟨rfl, rfl⟩) | (go_at_call 72; refine (HC.out _).mono ?_; rintro e w' ⟨v', rfl, ho, hb⟩))
      go_ret
      exact ⟨v', rfl, by rw [HG.out]; exact ho, hb⟩
    · have HR := Lib.hid (show RdB w (.slice (some ⟨gb, a, none⟩) k (cap - a)) (Mm.get b a k) from HRW.out.part a k (cap - a) (by omega) (by omega) (by omega))
      have HC := Lib.hid (cloneB w ⟨gb, a, none⟩ k (cap - a) (Mm.get b a k) HR.out (by rw [hlen]; omega))
      generalize b.length = len at *
      clear hlen
      go_enter Try.func23, Try.ntmps23
      go_wp2_with (first | (go_at_call 70; refine hN.out.mono ?_; rintro e w' ⟨rfl, rfl⟩) | (go_at_call 71; refine HT.out.mono ?_; rintro e w' ⟨rfl, rfl⟩) | (go_at_call 72; refine HC.out.mono ?_; rintro e w' ⟨v', rfl, ho, hb⟩))
      go_ret
      exact ⟨v', rfl, ho, hb⟩
  · have e2 : Mm.bytesL b a n = [] := by unfold Mm.bytesL; rw [if_neg hin]
    rw [e2]
    rw [show Mm.thereB b.length a n = false by unfold Mm.thereB; simp; omega] at hT
    have HT := Lib.hid hT
    clear hT e2
    generalize b.length = len at *
    go_enter Try.func23, Try.ntmps23
    go_wp2_with (first | (go_at_call 70; refine hN.out.mono ?_; rintro e w' ⟨rfl, rfl⟩) | (go_at_call 71; refine HT.out.mono ?_; rintro e w' ⟨rfl, rfl⟩))
    go_ret
    exact ⟨_, rfl, OwnB.nil _ _ _, Below.refl _ _⟩
theorem bytes_arg (w : World) (p : Value) (a : Nat) (n : Int) (hp : Calls Try.prog 70 #[p] w fun e w' => e = .returned (.bool true) ∧ w = w') :
    Calls Try.prog 23 #[p, .int .u32 a, .int .i64 n] w fun e w' => e = .returned (.slice none 0 0) ∧ w = w' := by
  have H := Lib.hid hp
  clear hp
  go_enter Try.func23, Try.ntmps23
  go_wp2_with (go_at_call 70; refine H.out.mono ?_; rintro e w' ⟨rfl, rfl⟩)
  go_ret
  exact ⟨rfl, rfl⟩
theorem size_arg (w : World) (p : Value) (hp : Calls Try.prog 70 #[p] w fun e w' => e = .returned (.bool true) ∧ w = w') :
    Calls Try.prog 49 #[p] w fun e w' => e = .returned (.int .i64 0) ∧ w = w' := by
  have H := Lib.hid hp
  clear hp
  go_enter Try.func49, Try.ntmps49
  go_wp2_with (go_at_call 70; refine H.out.mono ?_; rintro e w' ⟨rfl, rfl⟩)
  go_ret
  exact ⟨rfl, rfl⟩
theorem clone_arg (w : World) (p : Value) (hp : Calls Try.prog 70 #[p] w fun e w' => e = .returned (.bool true) ∧ w = w') :
    Calls Try.prog 45 #[p] w fun e w' => e = .returned (.pointer none) ∧ w = w' := by
  have H := Lib.hid hp
  clear hp
  go_enter Try.func45, Try.ntmps45
  go_wp2_with (go_at_call 70; refine H.out.mono ?_; rintro e w' ⟨rfl, rfl⟩)
  go_ret
  exact ⟨rfl, rfl⟩
end Go.Proofs.Ytijekhdndegdaaa
