/- Walks: the clones, Size, Put, Bytes. -/
import Derived.Test.YtijekhdndegdaaaMmWrite
namespace Go.Proofs.Ytijekhdndegdaaa
open Go.RowKit Kit
set_option linter.unusedVariables false
set_option linter.unusedSimpArgs false

theorem mrt : RowTy Try.prog 29 95 2 8 :=
  ⟨Try.underlying29, by
    have h : (Try.prog.info? 95).map (fun i => (i.zero, i.size, i.bytes)) = some (some (.agg #[.int .u32 0, .int .u32 0]), 2, 8) := by kernel_rfl
    obtain ⟨i, h1, h2, h3, h4⟩ := info_parts h
    exact ⟨i, _, h1, h2, h3, h4, rfl⟩⟩

theorem mq29 (w : World) (a : Option Addr) (n c : Nat) : (binOp .eql 29 (.slice a n c) (.slice none 0 0)).run Try.prog w = .ok (.bool a.isNone) w := Lib.run_eql_slice_nil w _ _ a n c 0 0 Try.underlying29

theorem cloneB (w : World) (a : Addr) (n c : Nat) (l : List UInt8) (h : RdB w (.slice (some a) n c) l) (hl : l.length ≤ 140737488355328) :
    Calls Try.prog 72 #[.slice (some a) n c] w fun e w' => ∃ v', e = .returned v' ∧ OwnB 5 w.heap.size w' v' l ∧ Below w.heap.size w w' := by
  have hq := mq34
  go_enter Try.func72, Try.ntmps72
  go_wp2_with (at_builtin; refine wpList_appendB rfl _ _ _ _ rfl mbt w.heap.size _ rfl [] (OwnB.built w 5 #[] [] rfl (Nat.zero_le _) (Nat.le_refl _)) _ rfl l (src_of_rd mbt (h.below ((Below.refl w.heap.size w).alloc (Nat.le_refl _) _))) (by simpa using hl) (by simp) ?_; intro v3 w3 ho3 hb3 _)
  go_ret
  exact ⟨v3, rfl, by simpa using ho3, ((Below.refl w.heap.size w).alloc (Nat.le_refl _) _).trans hb3⟩
theorem cloneB_nil (w : World) : Calls Try.prog 72 #[.slice none 0 0] w fun e w' => e = .returned (.slice none 0 0) ∧ w = w' := by
  have hq := mq34
  go_enter Try.func72, Try.ntmps72
  go_wp2
  go_ret
  exact ⟨rfl, rfl⟩

theorem cloneH (w : World) (v : Value) (n : Nat) (xs : List Value) (h : Rd w 2 v n xs) (hn : n ≤ 16) (h1 : ∀ u ∈ xs, u.oneCell' = true) :
    Calls Try.prog 68 #[v] w fun e w' => ∃ v', e = .returned v' ∧ Rd w' 2 v' n xs ∧ (∀ g, g < w.heap.size → Off v' g) ∧ Below w.heap.size w w' := by
  have hq := mq29
  obtain ⟨A, c, rfl⟩ := h.form
  cases A with
  | none =>
    have h0 : n = 0 := by
      obtain ⟨_, A, c, e, _, _, h4⟩ := h
      rcases Nat.eq_zero_or_pos n with h0 | h0
      · exact h0
      · obtain ⟨g, off, hA, _⟩ := h4 h0
        injection e with e; subst e; cases hA
    obtain ⟨hl, _⟩ := h
    subst h0
    obtain rfl : xs = [] := List.eq_nil_of_length_eq_zero (by simpa using hl)
    go_enter Try.func68, Try.ntmps68
    go_wp2
    go_ret
    exact ⟨_, rfl, Rd.nil _ _, fun g _ k off n c e => by simp at e, Below.refl _ _⟩
  | some a =>
    have hs := Lib.hid (fun W hb => Rd.src mrt (Rd.kept h (w' := W) hb) h1)
    have hb1 := Lib.hid ((Below.refl w.heap.size w).alloc (Nat.le_refl _) (.cells #[] 95))
    clear h h1
    go_enter Try.func68, Try.ntmps68
    go_wp2_with (at_builtin; refine wpList_append_new rfl _ _ _ _ rfl mrt (by decide) _ rfl _ rfl n xs (hs.out _ hb1.out) (by unfold maxLen; omega) (by omega) ?_; intro v3 w3 hr3 hb3 ho3 h03)
    go_ret
    refine ⟨v3, rfl, hr3, fun g hg => ?_, hb1.out.trans (hb3.mono (by simp))⟩
    intro k off n' c' e hn'
    by_cases h0 : 0 < n
    · have := ho3 h0
      rcases this.2 with ⟨_, hn0⟩ | ⟨g', cap, cur, e', hge, _⟩
      · omega
      · rw [e'] at e
        simp at e
        simp at hge
        omega
    · have := (h03 (by omega)).1
      rw [this] at e
      simp at e
      omega

theorem size_own (w : World) (gm gb : Nat) (b : List UInt8) (hs : List (Nat × Nat)) (h : OwnM w gm gb b hs) :
    Calls Try.prog 49 #[.pointer (some ⟨gm, 0, none⟩)] w fun e w' => e = .returned (.int .i64 b.length) ∧ w = w' := by
  obtain ⟨A, c, cap, c0, c1, -⟩ := h.cells
  have hN := Lib.hid (none_own w gm gb _ _ c0)
  clear c1 h
  generalize b.length = len at *
  go_enter Try.func49, Try.ntmps49
  go_wp2_with (go_at_call 70; refine hN.out.mono ?_; rintro e w' ⟨rfl, rfl⟩)
  go_ret
  exact ⟨rfl, rfl⟩


theorem put_arg (w : World) (p : Value) (v : Value) (a : Nat) (hp : Calls Try.prog 70 #[p] w fun e w' => e = .returned (.bool true) ∧ w = w') :
    Calls Try.prog 44 #[p, .int .u32 a, v] w fun e w' => e = .returned (.int .i64 1) ∧ w = w' := by
  have H := Lib.hid hp
  clear hp
  go_enter Try.func44, Try.ntmps44
  go_wp2_with (go_at_call 70; refine H.out.mono ?_; rintro e w' ⟨rfl, rfl⟩)
  go_ret
  exact ⟨rfl, rfl⟩
/-- What 'Put' answers. -/
def Mm.putE (len a n : Nat) : Int := if a + n ≤ len then 0 else 30
def Mm.putB (b : List UInt8) (a : Nat) (l : List UInt8) : List UInt8 := if a + l.length ≤ b.length then Mm.put b a l else b
theorem Mm.thereB_nat (len a n : Nat) : Mm.thereB len a n = decide (a + n ≤ len) := by
  unfold Mm.thereB; rw [Bool.eq_iff_iff]; simp; omega
set_option maxRecDepth 20000 in
theorem put_own (w : World) (gm gb : Nat) (b : List UInt8) (hs : List (Nat × Nat)) (a : Nat) (v : Value) (l : List UInt8) (ha : a < 4294967296) (h : OwnM w gm gb b hs) (hv : RdB w v l) (hvm : l.length ≤ maxLen) :
    Calls Try.prog 44 #[.pointer (some ⟨gm, 0, none⟩), .int .u32 a, v] w fun e w' => e = .returned (.int .i64 (Mm.putE b.length a l.length)) ∧ OwnM w' gm gb (Mm.putB b a l) hs ∧ But gb w w' := by
  obtain ⟨A, c, cap, c0, c1, hrw, hcm, hgm, hne⟩ := h.cells
  have hcap := hrw.le
  have HRW := Lib.hid hrw
  have hhi := h.hi
  have hN := Lib.hid (none_own w gm gb _ _ c0)
  have hT := there_own w gm gb _ _ a l.length h.hi ha c0
  rw [Mm.thereB_nat] at hT
  unfold maxLen at hvm
  obtain ⟨Al, cl, rfl⟩ := hv.length
  have HV := Lib.hid hv
  have HM := Lib.hid h
  clear c1 h hv hrw
  by_cases hin : a + l.length ≤ b.length
  · have e1 : Mm.putE b.length a l.length = 0 := by unfold Mm.putE; rw [if_pos hin]
    have e2 : Mm.putB b a l = Mm.put b a l := by unfold Mm.putB; rw [if_pos hin]
    rw [e1, e2]
    rw [show decide (a + l.length ≤ b.length) = true by simpa using hin] at hT
    have HT := Lib.hid hT
    have hab : (a : Int) ≤ b.length := by omega
    have hbi : (b.length : Int) ≤ 1048576 := by omega
    clear hT e1 e2
    have HPL := Lib.hid (show (Mm.put b a l).length = b.length from Mm.put_length _ _ _ hin)
    by_cases hl0 : cap = a
    · have hl : l = [] := List.eq_nil_of_length_eq_zero (by omega)
      have hba : b.length = a := by omega
      subst hl
      have HP := Lib.hid (show Mm.put b a [] = b from Mm.put_nil b a)
      have hcn := fun W => run_copy_none (P := Try.prog) W 34 34 3 5 (some ⟨gb, 0, none⟩) Al 0 0 0 cl mbt.slice (by kernel_rfl) rfl
      simp only [List.length_nil] at HV HT
      generalize b.length = len at *
      subst hl0 hba
      go_enter Try.func44, Try.ntmps44
      go_wp2_with (first | (go_at_call 70; refine hN.out.mono ?_; rintro e w' ⟨rfl, rfl⟩) | (go_at_call 71; refine HT.out.mono ?_; rintro e w' ⟨rfl, rfl⟩))
      go_ret
      exact ⟨rfl, by rw [HP.out]; exact HM.out, But.of_below (Below.refl _ _)⟩
    · have HF := Lib.hid (show a + min l.length (b.length - a) ≤ b.length by omega)
      have HP := Lib.hid (show lay b a (l.take (b.length - a)) = Mm.put b a l by
        rw [List.take_of_length_le (by omega)]; rfl)
      generalize hbl : b.length = len at *
      have HBL := Lib.hid hbl
      clear hbl
      generalize hll : l.length = ll at *
      have HLL := Lib.hid hll
      clear hll
      go_enter Try.func44, Try.ntmps44
      go_wp2_with (first | (go_at_call 70; refine hN.out.mono ?_; rintro e w' ⟨rfl, rfl⟩) | (go_at_call 71; refine HT.out.mono ?_; rintro e w' ⟨rfl, rfl⟩) | (refine wpList_copyB rfl (.tmp 22) (.tmp 23) 34 34 rfl mbt gb a (len - a) (cap - a) cap rfl _ rfl b l 5 HRW.out HV.out (by have h1 := HF.out; have h2 := HBL.out; have h3 := HLL.out; omega) ?_; intro w2 hg2 hbut2))
      go_ret
      rw [HP.out] at hg2
      exact ⟨rfl, HM.out.wrote hbut2 (by rw [HPL.out, HBL.out]) (fun cap' hc => by rw [Rw.uniq hc HRW.out]; exact hg2), hbut2⟩
  · have e1 : Mm.putE b.length a l.length = 30 := by unfold Mm.putE; rw [if_neg hin]
    have e2 : Mm.putB b a l = b := by unfold Mm.putB; rw [if_neg hin]
    rw [e1, e2]
    rw [show decide (a + l.length ≤ b.length) = false by simpa using hin] at hT
    have HT := Lib.hid hT
    clear hT e1 e2
    generalize b.length = len at *
    generalize l.length = ll at *
    go_enter Try.func44, Try.ntmps44
    go_wp2_with (first | (go_at_call 70; refine hN.out.mono ?_; rintro e w' ⟨rfl, rfl⟩) | (go_at_call 71; refine HT.out.mono ?_; rintro e w' ⟨rfl, rfl⟩))
    go_ret
    exact ⟨rfl, HM.out, But.of_below (Below.refl _ _)⟩

end Go.Proofs.Ytijekhdndegdaaa
