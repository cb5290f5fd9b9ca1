/- Flow, the document's side: Opposite, asks, branch. -/
import Derived.Test.YtfafdkbnmfpbmaaDoorF8Ref
namespace Go.Proofs.YtfafdkbnmfpbmaaDoor
open Go.RowKit Kit
set_option linter.unusedVariables false
set_option linter.unusedSimpArgs false

def F8.conds : List (List UInt8) := [[101, 113], [110, 101], [108, 116], [103, 101], [108, 116, 117], [103, 101, 117]]
theorem F8.opp_none {c : List UInt8} (h : ∀ j, j < 6 → F8.conds.getD j [] ≠ c) : F8.opp c = none := by
  have e := fun j hj => Ne.symm (h j hj)
  unfold F8.opp
  rw [if_neg (show c ≠ [101, 113] from e 0 (by decide)), if_neg (show c ≠ [110, 101] from e 1 (by decide)), if_neg (show c ≠ [108, 116] from e 2 (by decide)), if_neg (show c ≠ [103, 101] from e 3 (by decide)), if_neg (show c ≠ [108, 116, 117] from e 4 (by decide)), if_neg (show c ≠ [103, 101, 117] from e 5 (by decide))]
theorem F8.conds_step {c : List UInt8} {k : Nat} (h : ∀ j, j < k → F8.conds.getD j [] ≠ c) (hk : F8.conds.getD k [] ≠ c) : ∀ j, j < k + 1 → F8.conds.getD j [] ≠ c := fun j hj => by
  by_cases e : j = k
  · rw [e]; exact hk
  · exact h j (by omega)
set_option maxRecDepth 100000 in
set_option maxHeartbeats 4000000 in
theorem ropp_any (c : List UInt8) (w : World) : Calls Tryd.prog 15 #[.string ⟨c.toArray⟩] w fun e w' => e = .returned (.tuple #[.string ⟨((F8.opp c).getD []).toArray⟩, .bool (F8.opp c).isSome]) ∧ Below w.heap.size w w' := by
  obtain ⟨W1, hW1⟩ : ∃ W1, (w.alloc (.cells #[.string ⟨#[101, 113]⟩, .string ⟨#[110, 101]⟩, .string ⟨#[108, 116]⟩, .string ⟨#[103, 101]⟩, .string ⟨#[108, 116, 117]⟩, .string ⟨#[103, 101, 117]⟩] 9)).alloc (.cells #[.string ⟨#[110, 101]⟩, .string ⟨#[101, 113]⟩, .string ⟨#[103, 101]⟩, .string ⟨#[108, 116]⟩, .string ⟨#[103, 101, 117]⟩, .string ⟨#[108, 116, 117]⟩] 9) = W1 := ⟨_, rfl⟩
  have hbe : Below w.heap.size w W1 := by rw [← hW1]; exact ((Below.refl _ _).alloc (Nat.le_refl _) _).alloc (by simp) _
  have hk1 : Bk W1 w.heap.size 9 #[.string ⟨#[101, 113]⟩, .string ⟨#[110, 101]⟩, .string ⟨#[108, 116]⟩, .string ⟨#[103, 101]⟩, .string ⟨#[108, 116, 117]⟩, .string ⟨#[103, 101, 117]⟩] := by rw [← hW1]; exact (Bk.fresh w _ _).kept ((Below.refl _ _).alloc (Nat.le_refl _) _)
  have hk2 : Bk W1 (w.heap.size + 1) 9 #[.string ⟨#[110, 101]⟩, .string ⟨#[101, 113]⟩, .string ⟨#[103, 101]⟩, .string ⟨#[108, 116]⟩, .string ⟨#[103, 101, 117]⟩, .string ⟨#[108, 116, 117]⟩] := by rw [← hW1]; have := Bk.fresh (w.alloc (.cells #[.string ⟨#[101, 113]⟩, .string ⟨#[110, 101]⟩, .string ⟨#[108, 116]⟩, .string ⟨#[103, 101]⟩, .string ⟨#[108, 116, 117]⟩, .string ⟨#[103, 101, 117]⟩] 9)) 9 #[.string ⟨#[110, 101]⟩, .string ⟨#[101, 113]⟩, .string ⟨#[103, 101]⟩, .string ⟨#[108, 116]⟩, .string ⟨#[103, 101, 117]⟩, .string ⟨#[108, 116, 117]⟩]; rw [World.size_alloc] at this; exact this
  have HBE := Lib.hid hbe
  have a0 : W1.cell? ⟨w.heap.size, 0, none⟩ = some (.string ⟨#[101, 113]⟩) := hk1.cell 0
  have b0 : W1.cell? ⟨w.heap.size + 1, 0, none⟩ = some (.string ⟨#[110, 101]⟩) := hk2.cell 0
  have a1 : W1.cell? ⟨w.heap.size, 1, none⟩ = some (.string ⟨#[110, 101]⟩) := hk1.cell 1
  have b1 : W1.cell? ⟨w.heap.size + 1, 1, none⟩ = some (.string ⟨#[101, 113]⟩) := hk2.cell 1
  have a2 : W1.cell? ⟨w.heap.size, 2, none⟩ = some (.string ⟨#[108, 116]⟩) := hk1.cell 2
  have b2 : W1.cell? ⟨w.heap.size + 1, 2, none⟩ = some (.string ⟨#[103, 101]⟩) := hk2.cell 2
  have a3 : W1.cell? ⟨w.heap.size, 3, none⟩ = some (.string ⟨#[103, 101]⟩) := hk1.cell 3
  have b3 : W1.cell? ⟨w.heap.size + 1, 3, none⟩ = some (.string ⟨#[108, 116]⟩) := hk2.cell 3
  have a4 : W1.cell? ⟨w.heap.size, 4, none⟩ = some (.string ⟨#[108, 116, 117]⟩) := hk1.cell 4
  have b4 : W1.cell? ⟨w.heap.size + 1, 4, none⟩ = some (.string ⟨#[103, 101, 117]⟩) := hk2.cell 4
  have a5 : W1.cell? ⟨w.heap.size, 5, none⟩ = some (.string ⟨#[103, 101, 117]⟩) := hk1.cell 5
  have b5 : W1.cell? ⟨w.heap.size + 1, 5, none⟩ = some (.string ⟨#[108, 116, 117]⟩) := hk2.cell 5
  clear hbe hk1 hk2
  go_enter Tryd.func15, Tryd.ntmps15
  go_wp2_with fail
  go_loop [6] (fun i => ∃ k : Nat, i = .int .i64 (k : Int) ∧ k ≤ 6 ∧ ∀ j, j < k → F8.conds.getD j [] ≠ c) (fun i => 6 - (intOf i).toNat)
  case atStart => exact ⟨0, rfl, Nat.zero_le _, fun j hj => absurd hj (by omega)⟩
  case round =>
    obtain ⟨k, rfl, hk, hno⟩ := hrel
    have HN := Lib.hid hno
    clear hno
    by_cases c0 : k = 0
    · subst c0
      by_cases hc : c = [101, 113]
      · subst hc
        go_wp2_with fail
        go_ret2
        exact ⟨rfl, HBE.out⟩
      · have e0 : ([101, 113] == c) = false := by rw [beq_eq_false_iff_ne]; exact fun e => hc e.symm
        have HE := Lib.hid (F8.conds_step HN.out (fun e => hc e.symm))
        clear hc
        go_wp2_with fail
        go_round
        case rel => exact ⟨1, rfl, by decide, HE.out⟩
        case measure => simp [intOf]
    by_cases c1 : k = 1
    · subst c1
      by_cases hc : c = [110, 101]
      · subst hc
        go_wp2_with fail
        go_ret2
        exact ⟨rfl, HBE.out⟩
      · have e0 : ([110, 101] == c) = false := by rw [beq_eq_false_iff_ne]; exact fun e => hc e.symm
        have HE := Lib.hid (F8.conds_step HN.out (fun e => hc e.symm))
        clear hc
        go_wp2_with fail
        go_round
        case rel => exact ⟨2, rfl, by decide, HE.out⟩
        case measure => simp [intOf]
    by_cases c2 : k = 2
    · subst c2
      by_cases hc : c = [108, 116]
      · subst hc
        go_wp2_with fail
        go_ret2
        exact ⟨rfl, HBE.out⟩
      · have e0 : ([108, 116] == c) = false := by rw [beq_eq_false_iff_ne]; exact fun e => hc e.symm
        have HE := Lib.hid (F8.conds_step HN.out (fun e => hc e.symm))
        clear hc
        go_wp2_with fail
        go_round
        case rel => exact ⟨3, rfl, by decide, HE.out⟩
        case measure => simp [intOf]
    by_cases c3 : k = 3
    · subst c3
      by_cases hc : c = [103, 101]
      · subst hc
        go_wp2_with fail
        go_ret2
        exact ⟨rfl, HBE.out⟩
      · have e0 : ([103, 101] == c) = false := by rw [beq_eq_false_iff_ne]; exact fun e => hc e.symm
        have HE := Lib.hid (F8.conds_step HN.out (fun e => hc e.symm))
        clear hc
        go_wp2_with fail
        go_round
        case rel => exact ⟨4, rfl, by decide, HE.out⟩
        case measure => simp [intOf]
    by_cases c4 : k = 4
    · subst c4
      by_cases hc : c = [108, 116, 117]
      · subst hc
        go_wp2_with fail
        go_ret2
        exact ⟨rfl, HBE.out⟩
      · have e0 : ([108, 116, 117] == c) = false := by rw [beq_eq_false_iff_ne]; exact fun e => hc e.symm
        have HE := Lib.hid (F8.conds_step HN.out (fun e => hc e.symm))
        clear hc
        go_wp2_with fail
        go_round
        case rel => exact ⟨5, rfl, by decide, HE.out⟩
        case measure => simp [intOf]
    by_cases c5 : k = 5
    · subst c5
      by_cases hc : c = [103, 101, 117]
      · subst hc
        go_wp2_with fail
        go_ret2
        exact ⟨rfl, HBE.out⟩
      · have e0 : ([103, 101, 117] == c) = false := by rw [beq_eq_false_iff_ne]; exact fun e => hc e.symm
        have HE := Lib.hid (F8.conds_step HN.out (fun e => hc e.symm))
        clear hc
        go_wp2_with fail
        go_round
        case rel => exact ⟨6, rfl, by decide, HE.out⟩
        case measure => simp [intOf]
    obtain rfl : k = 6 := by omega
    have HR := Lib.hid (F8.opp_none HN.out)
    clear c0 c1 c2 c3 c4 c5
    go_wp2_with fail
    go_ret2
    exact ⟨fret_sb (by rw [HR.out]; rfl) (by rw [HR.out]; rfl), HBE.out⟩
theorem fret_bb' {a a' b b' : Bool} (h1 : a = a') (h2 : b = b') : Ending.returned (.tuple #[.bool a, .bool b]) = .returned (.tuple #[.bool a', .bool b']) := by rw [h1, h2]
theorem F8.asks_kind {s : List UInt8} {k : F8.K} (h : s = F8.word k) : F8.asksV s = (F8.cond k, true) := by unfold F8.asksV; rw [h, F8.kind_word]
theorem F8.asks_none {s : List UInt8} (h1 : s ≠ F8.wIf) (h2 : s ≠ F8.wElse) (h3 : s ≠ F8.wThen) (h4 : s ≠ F8.wBegin) (h5 : s ≠ F8.wWhile) (h6 : s ≠ F8.wRepeat) (h7 : s ≠ F8.wUntil) (h8 : s ≠ F8.wAgain) : F8.asksV s = (false, false) := by
  unfold F8.asksV F8.kind
  rw [if_neg h1, if_neg h2, if_neg h3, if_neg h4, if_neg h5, if_neg h6, if_neg h7, if_neg h8]
set_option maxHeartbeats 2000000 in
theorem rasks_any (s : List UInt8) (w : World) : Calls Tryd.prog 37 #[.string ⟨s.toArray⟩] w fun e w' => e = .returned (.tuple #[.bool (F8.asksV s).1, .bool (F8.asksV s).2]) ∧ w = w' := by
  by_cases h1 : s = [105, 102]
  · subst h1
    go_enter Tryd.func37, Tryd.ntmps37
    go_wp2
    go_ret2
    exact ⟨rfl, rfl⟩
  by_cases h2 : s = [101, 108, 115, 101]
  · subst h2
    go_enter Tryd.func37, Tryd.ntmps37
    go_wp2
    go_ret2
    exact ⟨rfl, rfl⟩
  by_cases h3 : s = [116, 104, 101, 110]
  · subst h3
    go_enter Tryd.func37, Tryd.ntmps37
    go_wp2
    go_ret2
    exact ⟨rfl, rfl⟩
  by_cases h4 : s = [98, 101, 103, 105, 110]
  · subst h4
    go_enter Tryd.func37, Tryd.ntmps37
    go_wp2
    go_ret2
    exact ⟨rfl, rfl⟩
  by_cases h5 : s = [119, 104, 105, 108, 101]
  · subst h5
    go_enter Tryd.func37, Tryd.ntmps37
    go_wp2
    go_ret2
    exact ⟨rfl, rfl⟩
  by_cases h6 : s = [114, 101, 112, 101, 97, 116]
  · subst h6
    go_enter Tryd.func37, Tryd.ntmps37
    go_wp2
    go_ret2
    exact ⟨rfl, rfl⟩
  by_cases h7 : s = [117, 110, 116, 105, 108]
  · subst h7
    go_enter Tryd.func37, Tryd.ntmps37
    go_wp2
    go_ret2
    exact ⟨rfl, rfl⟩
  by_cases h8 : s = [97, 103, 97, 105, 110]
  · subst h8
    go_enter Tryd.func37, Tryd.ntmps37
    go_wp2
    go_ret2
    exact ⟨rfl, rfl⟩
  have HR := Lib.hid (F8.asks_none h1 h2 h3 h4 h5 h6 h7 h8)
  have e1 : (s == [105, 102]) = false := by simpa using h1
  have e2 : (s == [101, 108, 115, 101]) = false := by simpa using h2
  have e3 : (s == [116, 104, 101, 110]) = false := by simpa using h3
  have e4 : (s == [98, 101, 103, 105, 110]) = false := by simpa using h4
  have e5 : (s == [119, 104, 105, 108, 101]) = false := by simpa using h5
  have e6 : (s == [114, 101, 112, 101, 97, 116]) = false := by simpa using h6
  have e7 : (s == [117, 110, 116, 105, 108]) = false := by simpa using h7
  have e8 : (s == [97, 103, 97, 105, 110]) = false := by simpa using h8
  clear h1 h2 h3 h4 h5 h6 h7 h8
  go_enter Tryd.func37, Tryd.ntmps37
  go_wp2
  go_ret2
  exact ⟨fret_bb' (by rw [HR.out]) (by rw [HR.out]), rfl⟩
theorem F8.three' {w : World} {v : Value} {l : List (List UInt8)} (h : RdS w v l) (hl : l.length = 3) :
    ∃ g off c, v = .slice (some ⟨g, off, none⟩) 3 c ∧ g < w.heap.size ∧ w.cell? ⟨g, off, none⟩ = some (.string ⟨(l.getD 0 []).toArray⟩) ∧ w.cell? ⟨g, off + 1, none⟩ = some (.string ⟨(l.getD 1 []).toArray⟩) ∧ w.cell? ⟨g, off + 2, none⟩ = some (.string ⟨(l.getD 2 []).toArray⟩) := by
  match l, hl with
  | [a, b, d], _ =>
    obtain ⟨h1, A, c, rfl, h2, h3, h4⟩ := h
    obtain ⟨g, off, rfl, hg, hc⟩ := h4 (by simp)
    exact ⟨g, off, c, rfl, hg, by simpa using hc 0 (.string ⟨a.toArray⟩) rfl, hc 1 (.string ⟨b.toArray⟩) rfl, hc 2 (.string ⟨d.toArray⟩) rfl⟩
theorem F8.cat_b' (o : List UInt8) : (⟨#[98]⟩ : ByteArray) ++ ⟨o.toArray⟩ = ⟨(98 :: o).toArray⟩ := app_eq [98] o
theorem F8.opp_len' (c : List UInt8) : ((F8.opp c).getD []).length ≤ 3 := by
  unfold F8.opp
  repeat' split
  all_goals decide
theorem F8.own_of_bk' {w : World} {g B : Nat} {l : List (List UInt8)} (h : Bk w g 9 (L6.sv l).toArray) (hB : B ≤ g) (hm : l.length ≤ maxLen) : OwnS B w (.slice (some ⟨g, 0, none⟩) l.length l.length) l :=
  ⟨by rw [L6.sv_length, Nat.mul_one], .inr ⟨g, l.length, _, rfl, hB, h, Nat.le_refl _, hm, by simp [L6.sv_length], by simp only [List.toList_toArray, Nat.mul_one]; rw [← L6.sv_length l, List.take_length]⟩⟩
end Go.Proofs.YtfafdkbnmfpbmaaDoor
