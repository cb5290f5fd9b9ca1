/- The walk of the law IsaNames. -/
import Derived.Test.YtijekhdndegdaaaIsByName
import Derived.Test.YtijekhdndegdaaaIsRefLegal
namespace Go.Proofs.Ytijekhdndegdaaa
open Go.RowKit
set_option linter.unusedVariables false
set_option linter.unusedSimpArgs false

set_option maxRecDepth 20000 in
set_option maxHeartbeats 2000000 in
theorem core_isaNames (op : Int) (s : ByteArray) (w : World) (hs : s.size ≤ maxLen) : Calls Try.prog 17 #[.int .i64 op, .string s] w fun e w' => e = .returned (.bool true) ∧ Below w.heap.size w w' := by
  by_cases h100 : 100 < s.size
  · have g1 : (100 : Int) < s.size := by omega
    unfold maxLen at hs
    go_enter Try.func17, Try.ntmps17
    go_wp2_with (go_at_call 56; refine (iknows_any _).mono ?_; rintro e w5 ⟨rfl, hb5⟩)
    go_ret
    exact ⟨rfl, hb5⟩
  · have g1 : ¬ (100 : Int) < s.size := by omega
    have b1 := Lib.hid (fun W => byname_own s W)
    have b2 := Lib.hid (fun W => rbyname_any s W hs)
    have b3 := Lib.hid (fun W => byname_own (Is.nameOf op) W)
    have n1 := Lib.hid (fun W => name_own op W)
    have n2 := Lib.hid (fun W => rname_any op W)
    have s1 := Lib.hid (fun W => shape_own op W)
    have s2 := Lib.hid (fun W => shape_ref op W)
    have HN := Lib.hid (show (Is.nameOf op = ⟨#[]⟩ ∨ (Is.nameOf op ≠ ByteArray.empty ∧ Is.found (Is.nameOf op) = op ∧ Is.isName (Is.nameOf op) = true)) from by
      unfold Is.nameOf
      by_cases h : op < 0 ∨ 48 ≤ op
      · rw [if_pos h]; exact .inl rfl
      · rw [if_neg h]
        obtain ⟨n, rfl⟩ := Int.eq_ofNat_of_zero_le (show 0 ≤ op by omega)
        rw [Int.toNat_natCast]
        have hn : n < 48 := by omega
        have hp := Is.pos_name n hn
        refine .inr ⟨Is.name_ne n hn, ?_, ?_⟩
        · show Is.found (Is.nameAt n) = n
          unfold Is.found; rw [hp, if_pos hn]
        · show Is.isName (Is.nameAt n) = true
          unfold Is.isName; rw [hp]; simpa using hn)
    unfold maxLen at hs
    generalize Is.nameOf op = nm at *
    generalize Is.found s = F1 at *
    generalize Is.isName s = B1 at *
    generalize hF2 : Is.found nm = F2 at *
    generalize hB2 : Is.isName nm = B2 at *
    generalize Is.shape op = sh at *
    clear hF2 hB2
    go_enter Try.func17, Try.ntmps17
    go_wp2_with fail
    refine (b1.out _).mono ?_
    rintro e w1 ⟨rfl, hb1⟩
    go_wp2_with fail
    refine (b2.out _).mono ?_
    rintro e w2 ⟨rfl, hb2⟩
    have HB2 := Lib.hid (hb1.trans (hb2.mono hb1.size))
    clear hb1 hb2
    go_wp2_with fail
    refine (n1.out _).mono ?_
    rintro e w3 ⟨rfl, hb3⟩
    have HB3 := Lib.hid (HB2.out.trans (hb3.mono HB2.out.size))
    clear hb3
    go_wp2_with fail
    refine (b3.out _).mono ?_
    rintro e w4 ⟨rfl, hb4⟩
    have HB4 := Lib.hid (HB3.out.trans (hb4.mono HB3.out.size))
    clear hb4
    go_wp2_with fail
    refine (n1.out _).mono ?_
    rintro e w5 ⟨rfl, hb5⟩
    have HB5 := Lib.hid (HB4.out.trans (hb5.mono HB4.out.size))
    clear hb5
    go_wp2_with fail
    refine (n2.out _).mono ?_
    rintro e w6 ⟨rfl, hb6⟩
    have HB6 := Lib.hid (HB5.out.trans (hb6.mono HB5.out.size))
    clear hb6
    go_wp2_with (first | (go_at_call 64; refine (s1.out _).mono ?_; rintro e w' ⟨rfl, rfl⟩) | (go_at_call 65; refine (s2.out _).mono ?_; rintro e w' ⟨rfl, rfl⟩))
    refine (n2.out _).mono ?_
    rintro e w7 ⟨rfl, hb7⟩
    have HB7 := Lib.hid (HB6.out.trans (hb7.mono HB6.out.size))
    clear hb7
    rcases HN.out with rfl | ⟨h1, rfl, rfl⟩
    · go_wp2_with (go_at_call 56; refine (iknows_any _).mono ?_; rintro e w8 ⟨rfl, hb8⟩)
      go_ret
      exact ⟨rfl, HB7.out.trans (hb8.mono HB7.out.size)⟩
    · have k1 : nm.toList.isEmpty = false := by
        cases hh : nm.toList with
        | nil =>
          exfalso; apply h1
          rw [ByteArray.toList_eq] at hh
          cases nm
          simp only at hh
          exact congrArg ByteArray.mk (Array.toList_eq_nil_iff.1 hh)
        | cons a l => rfl
      clear h1
      go_wp2_with (go_at_call 56; refine (iknows_any _).mono ?_; rintro e w8 ⟨rfl, hb8⟩)
      go_ret
      exact ⟨rfl, HB7.out.trans (hb8.mono HB7.out.size)⟩
theorem walk_isaNames (op : Int) (s : ByteArray) (w : World) (hop : -9223372036854775808 ≤ op ∧ op ≤ 9223372036854775807) (hs : s.size ≤ maxLen) :
    Calls Try.prog 17 #[.int .i64 op, .string s] w fun e w' => e = .returned (.bool true) ∧ Below w.heap.size w w' := core_isaNames op s w hs
end Go.Proofs.Ytijekhdndegdaaa
