/- Flow, the program's side: right. -/
import Derived.Test.YtfafdkbnmfpbmaaDoorF8Own6
import Derived.Test.YtfafdkbnmfpbmaaDoorF8Own5
namespace Go.Proofs.YtfafdkbnmfpbmaaDoor
open Go.RowKit Kit
set_option linter.unusedVariables false
set_option linter.unusedSimpArgs false

def F8.ask (x : L6.Line) : Bool × Bool := match F8.kind x.word with | none => (false, false) | some k => (F8.fine k x, true)
theorem fret_bb {a a' b b' : Bool} (h1 : a = a') (h2 : b = b') : Ending.returned (.tuple #[.bool a, .bool b]) = .returned (.tuple #[.bool a', .bool b']) := by rw [h1, h2]
theorem F8.ask_kind {x : L6.Line} {k : F8.K} (h : x.word = F8.word k) : F8.ask x = (F8.fine k x, true) := by unfold F8.ask; rw [h, F8.kind_word]
theorem F8.ask_none {x : L6.Line} (h : F8.kind x.word = none) : F8.ask x = (false, false) := by unfold F8.ask; rw [h]
theorem F8.fine_short {k : F8.K} {x : L6.Line} (hk : F8.cond k = true) (h : x.args.length ≠ 3) : F8.fine k x = false := by unfold F8.fine; rw [if_pos hk, decide_eq_false h]; rfl
theorem F8.fine_cond {k : F8.K} {x : L6.Line} (hk : F8.cond k = true) (h : x.args.length = 3) : F8.fine k x = (F8.opp (x.args.getD 1 [])).isSome := by unfold F8.fine; rw [if_pos hk, decide_eq_true h]; rfl
theorem F8.fine_bare {k : F8.K} {x : L6.Line} (hk : F8.cond k = false) : F8.fine k x = decide (x.args.length = 0) := by unfold F8.fine; rw [if_neg (by rw [hk]; decide)]
theorem F8.no_kind {s : List UInt8} (h1 : s ≠ F8.wIf) (h2 : s ≠ F8.wElse) (h3 : s ≠ F8.wThen) (h4 : s ≠ F8.wBegin) (h5 : s ≠ F8.wWhile) (h6 : s ≠ F8.wRepeat) (h7 : s ≠ F8.wUntil) (h8 : s ≠ F8.wAgain) : F8.kind s = none := by
  unfold F8.kind
  rw [if_neg h1, if_neg h2, if_neg h3, if_neg h4, if_neg h5, if_neg h6, if_neg h7, if_neg h8]
set_option maxRecDepth 100000 in
set_option maxHeartbeats 4000000 in
theorem fright_any (vl va : Value) (x : L6.Line) (w : World) (hl : ∃ A n c, vl = .slice A n c) (ha : RdS w va x.args) (hn : x.args.length ≤ 1000000) :
    Calls Tryd.prog 32 #[.agg #[vl, .string ⟨x.word.toArray⟩, va]] w fun e w' => e = .returned (.tuple #[.bool (F8.ask x).1, .bool (F8.ask x).2]) ∧ Below w.heap.size w w' := by
  obtain ⟨A0, n0, c0, rfl⟩ := hl
  by_cases h1 : x.word = [105, 102]
  · have HK := Lib.hid (F8.ask_kind (k := .ifK) h1)
    rw [h1]
    by_cases a3 : x.args.length = 3
    · obtain ⟨g, off, ca, rfl, hg, a0, a1, a2⟩ := F8.three ha a3
      have HR := Lib.hid (show F8.ask x = ((F8.opp (x.args.getD 1 [])).isSome, true) from by rw [HK.out, F8.fine_cond rfl a3])
      have CO := Lib.hid (fun W => fopp_any (x.args.getD 1 []) W)
      have hal := (Below.refl w.heap.size w).alloc (Nat.le_refl _) (.cells #[.slice A0 n0 c0, .string ⟨[105, 102].toArray⟩, .slice (some ⟨g, off, none⟩) 3 ca] 42)
      have HAL := Lib.hid hal
      clear hal HK ha
      generalize x.args.getD 1 [] = y1 at *
      generalize (F8.opp y1).getD [] = o at *
      generalize (F8.opp y1).isSome = ob at *
      clear a0 a2 a3
      go_enter Tryd.func32, Tryd.ntmps32
      go_wp2_with (go_at_call 14; refine (CO.out _).mono ?_; rintro e w' ⟨rfl, rfl⟩)
      go_ret2
      exact ⟨fret_bb (by rw [HR.out]) (by rw [HR.out]), HAL.out⟩
    · obtain ⟨A1, c1, rfl⟩ := ha.form
      have HR := Lib.hid (show F8.ask x = (false, true) from by rw [HK.out, F8.fine_short rfl a3])
      have b3 : ((x.args.length : Int) == 3) = false := by rw [beq_eq_false_iff_ne]; omega
      have b4 : ((x.args.length : Int) != 3) = true := by simp [bne, b3]
      have HAL := Lib.hid ((Below.refl w.heap.size w).alloc (Nat.le_refl _) (.cells #[.slice A0 n0 c0, .string ⟨[105, 102].toArray⟩, .slice A1 x.args.length c1] 42))
      clear HK ha a3
      generalize x.args.length = n1 at *
      go_enter Tryd.func32, Tryd.ntmps32
      go_wp2_with fail
      go_ret2
      exact ⟨fret_bb (by rw [HR.out]) (by rw [HR.out]), HAL.out⟩
  by_cases h2 : x.word = [101, 108, 115, 101]
  · have HK := Lib.hid (F8.ask_kind (k := .elseK) h2)
    rw [h2]
    obtain ⟨A1, c1, rfl⟩ := ha.form
    have HR := Lib.hid (show F8.ask x = (decide (x.args.length = 0), true) from by rw [HK.out, F8.fine_bare rfl])
    have HAL := Lib.hid ((Below.refl w.heap.size w).alloc (Nat.le_refl _) (.cells #[.slice A0 n0 c0, .string ⟨[101, 108, 115, 101].toArray⟩, .slice A1 x.args.length c1] 42))
    clear HK ha
    generalize x.args.length = n1 at *
    by_cases z : n1 = 0
    · subst z
      go_enter Tryd.func32, Tryd.ntmps32
      go_wp2_with fail
      go_ret2
      exact ⟨fret_bb (by rw [HR.out]; rfl) (by rw [HR.out]), HAL.out⟩
    · have b3 : ((n1 : Int) == 0) = false := by rw [beq_eq_false_iff_ne]; omega
      have HR2 := Lib.hid (show F8.ask x = (false, true) from by rw [HR.out, decide_eq_false z])
      clear z HR
      go_enter Tryd.func32, Tryd.ntmps32
      go_wp2_with fail
      go_ret2
      exact ⟨fret_bb (by rw [HR2.out]) (by rw [HR2.out]), HAL.out⟩
  by_cases h3 : x.word = [116, 104, 101, 110]
  · have HK := Lib.hid (F8.ask_kind (k := .thenK) h3)
    rw [h3]
    obtain ⟨A1, c1, rfl⟩ := ha.form
    have HR := Lib.hid (show F8.ask x = (decide (x.args.length = 0), true) from by rw [HK.out, F8.fine_bare rfl])
    have HAL := Lib.hid ((Below.refl w.heap.size w).alloc (Nat.le_refl _) (.cells #[.slice A0 n0 c0, .string ⟨[116, 104, 101, 110].toArray⟩, .slice A1 x.args.length c1] 42))
    clear HK ha
    generalize x.args.length = n1 at *
    by_cases z : n1 = 0
    · subst z
      go_enter Tryd.func32, Tryd.ntmps32
      go_wp2_with fail
      go_ret2
      exact ⟨fret_bb (by rw [HR.out]; rfl) (by rw [HR.out]), HAL.out⟩
    · have b3 : ((n1 : Int) == 0) = false := by rw [beq_eq_false_iff_ne]; omega
      have HR2 := Lib.hid (show F8.ask x = (false, true) from by rw [HR.out, decide_eq_false z])
      clear z HR
      go_enter Tryd.func32, Tryd.ntmps32
      go_wp2_with fail
      go_ret2
      exact ⟨fret_bb (by rw [HR2.out]) (by rw [HR2.out]), HAL.out⟩
  by_cases h4 : x.word = [98, 101, 103, 105, 110]
  · have HK := Lib.hid (F8.ask_kind (k := .beginK) h4)
    rw [h4]
    obtain ⟨A1, c1, rfl⟩ := ha.form
    have HR := Lib.hid (show F8.ask x = (decide (x.args.length = 0), true) from by rw [HK.out, F8.fine_bare rfl])
    have HAL := Lib.hid ((Below.refl w.heap.size w).alloc (Nat.le_refl _) (.cells #[.slice A0 n0 c0, .string ⟨[98, 101, 103, 105, 110].toArray⟩, .slice A1 x.args.length c1] 42))
    clear HK ha
    generalize x.args.length = n1 at *
    by_cases z : n1 = 0
    · subst z
      go_enter Tryd.func32, Tryd.ntmps32
      go_wp2_with fail
      go_ret2
      exact ⟨fret_bb (by rw [HR.out]; rfl) (by rw [HR.out]), HAL.out⟩
    · have b3 : ((n1 : Int) == 0) = false := by rw [beq_eq_false_iff_ne]; omega
      have HR2 := Lib.hid (show F8.ask x = (false, true) from by rw [HR.out, decide_eq_false z])
      clear z HR
      go_enter Tryd.func32, Tryd.ntmps32
      go_wp2_with fail
      go_ret2
      exact ⟨fret_bb (by rw [HR2.out]) (by rw [HR2.out]), HAL.out⟩
  by_cases h5 : x.word = [119, 104, 105, 108, 101]
  · have HK := Lib.hid (F8.ask_kind (k := .whileK) h5)
    rw [h5]
    by_cases a3 : x.args.length = 3
    · obtain ⟨g, off, ca, rfl, hg, a0, a1, a2⟩ := F8.three ha a3
      have HR := Lib.hid (show F8.ask x = ((F8.opp (x.args.getD 1 [])).isSome, true) from by rw [HK.out, F8.fine_cond rfl a3])
      have CO := Lib.hid (fun W => fopp_any (x.args.getD 1 []) W)
      have hal := (Below.refl w.heap.size w).alloc (Nat.le_refl _) (.cells #[.slice A0 n0 c0, .string ⟨[119, 104, 105, 108, 101].toArray⟩, .slice (some ⟨g, off, none⟩) 3 ca] 42)
      have HAL := Lib.hid hal
      clear hal HK ha
      generalize x.args.getD 1 [] = y1 at *
      generalize (F8.opp y1).getD [] = o at *
      generalize (F8.opp y1).isSome = ob at *
      clear a0 a2 a3
      go_enter Tryd.func32, Tryd.ntmps32
      go_wp2_with (go_at_call 14; refine (CO.out _).mono ?_; rintro e w' ⟨rfl, rfl⟩)
      go_ret2
      exact ⟨fret_bb (by rw [HR.out]) (by rw [HR.out]), HAL.out⟩
    · obtain ⟨A1, c1, rfl⟩ := ha.form
      have HR := Lib.hid (show F8.ask x = (false, true) from by rw [HK.out, F8.fine_short rfl a3])
      have b3 : ((x.args.length : Int) == 3) = false := by rw [beq_eq_false_iff_ne]; omega
      have b4 : ((x.args.length : Int) != 3) = true := by simp [bne, b3]
      have HAL := Lib.hid ((Below.refl w.heap.size w).alloc (Nat.le_refl _) (.cells #[.slice A0 n0 c0, .string ⟨[119, 104, 105, 108, 101].toArray⟩, .slice A1 x.args.length c1] 42))
      clear HK ha a3
      generalize x.args.length = n1 at *
      go_enter Tryd.func32, Tryd.ntmps32
      go_wp2_with fail
      go_ret2
      exact ⟨fret_bb (by rw [HR.out]) (by rw [HR.out]), HAL.out⟩
  by_cases h6 : x.word = [114, 101, 112, 101, 97, 116]
  · have HK := Lib.hid (F8.ask_kind (k := .repeatK) h6)
    rw [h6]
    obtain ⟨A1, c1, rfl⟩ := ha.form
    have HR := Lib.hid (show F8.ask x = (decide (x.args.length = 0), true) from by rw [HK.out, F8.fine_bare rfl])
    have HAL := Lib.hid ((Below.refl w.heap.size w).alloc (Nat.le_refl _) (.cells #[.slice A0 n0 c0, .string ⟨[114, 101, 112, 101, 97, 116].toArray⟩, .slice A1 x.args.length c1] 42))
    clear HK ha
    generalize x.args.length = n1 at *
    by_cases z : n1 = 0
    · subst z
      go_enter Tryd.func32, Tryd.ntmps32
      go_wp2_with fail
      go_ret2
      exact ⟨fret_bb (by rw [HR.out]; rfl) (by rw [HR.out]), HAL.out⟩
    · have b3 : ((n1 : Int) == 0) = false := by rw [beq_eq_false_iff_ne]; omega
      have HR2 := Lib.hid (show F8.ask x = (false, true) from by rw [HR.out, decide_eq_false z])
      clear z HR
      go_enter Tryd.func32, Tryd.ntmps32
      go_wp2_with fail
      go_ret2
      exact ⟨fret_bb (by rw [HR2.out]) (by rw [HR2.out]), HAL.out⟩
  by_cases h7 : x.word = [117, 110, 116, 105, 108]
  · have HK := Lib.hid (F8.ask_kind (k := .untilK) h7)
    rw [h7]
    by_cases a3 : x.args.length = 3
    · obtain ⟨g, off, ca, rfl, hg, a0, a1, a2⟩ := F8.three ha a3
      have HR := Lib.hid (show F8.ask x = ((F8.opp (x.args.getD 1 [])).isSome, true) from by rw [HK.out, F8.fine_cond rfl a3])
      have CO := Lib.hid (fun W => fopp_any (x.args.getD 1 []) W)
      have hal := (Below.refl w.heap.size w).alloc (Nat.le_refl _) (.cells #[.slice A0 n0 c0, .string ⟨[117, 110, 116, 105, 108].toArray⟩, .slice (some ⟨g, off, none⟩) 3 ca] 42)
      have HAL := Lib.hid hal
      clear hal HK ha
      generalize x.args.getD 1 [] = y1 at *
      generalize (F8.opp y1).getD [] = o at *
      generalize (F8.opp y1).isSome = ob at *
      clear a0 a2 a3
      go_enter Tryd.func32, Tryd.ntmps32
      go_wp2_with (go_at_call 14; refine (CO.out _).mono ?_; rintro e w' ⟨rfl, rfl⟩)
      go_ret2
      exact ⟨fret_bb (by rw [HR.out]) (by rw [HR.out]), HAL.out⟩
    · obtain ⟨A1, c1, rfl⟩ := ha.form
      have HR := Lib.hid (show F8.ask x = (false, true) from by rw [HK.out, F8.fine_short rfl a3])
      have b3 : ((x.args.length : Int) == 3) = false := by rw [beq_eq_false_iff_ne]; omega
      have b4 : ((x.args.length : Int) != 3) = true := by simp [bne, b3]
      have HAL := Lib.hid ((Below.refl w.heap.size w).alloc (Nat.le_refl _) (.cells #[.slice A0 n0 c0, .string ⟨[117, 110, 116, 105, 108].toArray⟩, .slice A1 x.args.length c1] 42))
      clear HK ha a3
      generalize x.args.length = n1 at *
      go_enter Tryd.func32, Tryd.ntmps32
      go_wp2_with fail
      go_ret2
      exact ⟨fret_bb (by rw [HR.out]) (by rw [HR.out]), HAL.out⟩
  by_cases h8 : x.word = [97, 103, 97, 105, 110]
  · have HK := Lib.hid (F8.ask_kind (k := .againK) h8)
    rw [h8]
    obtain ⟨A1, c1, rfl⟩ := ha.form
    have HR := Lib.hid (show F8.ask x = (decide (x.args.length = 0), true) from by rw [HK.out, F8.fine_bare rfl])
    have HAL := Lib.hid ((Below.refl w.heap.size w).alloc (Nat.le_refl _) (.cells #[.slice A0 n0 c0, .string ⟨[97, 103, 97, 105, 110].toArray⟩, .slice A1 x.args.length c1] 42))
    clear HK ha
    generalize x.args.length = n1 at *
    by_cases z : n1 = 0
    · subst z
      go_enter Tryd.func32, Tryd.ntmps32
      go_wp2_with fail
      go_ret2
      exact ⟨fret_bb (by rw [HR.out]; rfl) (by rw [HR.out]), HAL.out⟩
    · have b3 : ((n1 : Int) == 0) = false := by rw [beq_eq_false_iff_ne]; omega
      have HR2 := Lib.hid (show F8.ask x = (false, true) from by rw [HR.out, decide_eq_false z])
      clear z HR
      go_enter Tryd.func32, Tryd.ntmps32
      go_wp2_with fail
      go_ret2
      exact ⟨fret_bb (by rw [HR2.out]) (by rw [HR2.out]), HAL.out⟩
  have HR := Lib.hid (F8.ask_none (F8.no_kind h1 h2 h3 h4 h5 h6 h7 h8))
  obtain ⟨A1, c1, rfl⟩ := ha.form
  have e1 : (x.word == [105, 102]) = false := by simpa using h1
  have e2 : (x.word == [101, 108, 115, 101]) = false := by simpa using h2
  have e3 : (x.word == [116, 104, 101, 110]) = false := by simpa using h3
  have e4 : (x.word == [98, 101, 103, 105, 110]) = false := by simpa using h4
  have e5 : (x.word == [119, 104, 105, 108, 101]) = false := by simpa using h5
  have e6 : (x.word == [114, 101, 112, 101, 97, 116]) = false := by simpa using h6
  have e7 : (x.word == [117, 110, 116, 105, 108]) = false := by simpa using h7
  have e8 : (x.word == [97, 103, 97, 105, 110]) = false := by simpa using h8
  have HAL := Lib.hid ((Below.refl w.heap.size w).alloc (Nat.le_refl _) (.cells #[.slice A0 n0 c0, .string ⟨x.word.toArray⟩, .slice A1 x.args.length c1] 42))
  clear h1 h2 h3 h4 h5 h6 h7 h8 ha hn
  generalize x.args.length = n1 at *
  generalize hs : x.word = s at *
  clear hs
  go_enter Tryd.func32, Tryd.ntmps32
  go_wp2_with fail
  go_ret2
  exact ⟨fret_bb (by rw [HR.out]) (by rw [HR.out]), HAL.out⟩
end Go.Proofs.YtfafdkbnmfpbmaaDoor
