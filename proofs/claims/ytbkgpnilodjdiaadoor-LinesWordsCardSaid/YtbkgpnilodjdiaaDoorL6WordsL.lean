/- The walk of the law LinesWords; the table of tens in the world that comes in. -/
import Derived.Test.YtbkgpnilodjdiaaDoorL6RReg
import Derived.LaidMore
import Derived.LaidHandle
import Derived.MakeChecks
namespace Go.Proofs.YtbkgpnilodjdiaaDoor
open Go.RowKit Kit
set_option linter.unusedVariables false
set_option linter.unusedSimpArgs false

theorem L6.tab_named : Tryd.prog.globalNamed "internal/strconv.uint64pow10" = some 1 := by kernel_rfl
theorem L6.tab_type : (Tryd.prog.globals[1]?).map (·.type) = some 137 := by kernel_rfl
theorem L6.Tab.kept {w w' : World} (h : L6.Tab w) (hb : Below w.heap.size w w') : L6.Tab w' := by
  unfold L6.Tab Lib.TabIs at *
  unfold World.var? at *
  rw [L6.tab_named] at *
  simp only [Option.bind_some] at *
  cases hg : w.heap[1]? with
  | none => rw [hg] at h; cases h
  | some o =>
    rw [hb.block _ (Array.getElem?_eq_some_iff.1 hg).1]
    exact h
theorem L6.tab_datum : (Rows.laid_internal_strconv_uint64pow10 : DataW Unit) = Lib.tabData .u64 Lib.pow10Tab := by kernel_rfl
theorem L6.tab_of {W : World} (h : laidMetH Tryd.prog [("math/bits.deBruijn32tab", Rows.laid_math_bits_deBruijn32tab), ("math/bits.deBruijn64tab", Rows.laid_math_bits_deBruijn64tab), ("internal/strconv.uint64pow10", Rows.laid_internal_strconv_uint64pow10)] W) : L6.Tab W := by
  rw [MakeChecks.laidMetH_plain _ _ _ (by kernel_rfl)] at h
  obtain ⟨ps, ⟨g0, t0, cs0, f0, p0, q0, hg0, ht0, hv0, hd0, ⟨g1, t1, cs1, f1, p1, q1, hg1, ht1, hv1, hd1, ⟨g2, t2, cs2, f2, p2, q2, hg2, ht2, hv2, hd2, _, _⟩, _⟩, _⟩, _, _⟩ := h
  obtain rfl := Option.some.inj (L6.tab_named.symm.trans hg2)
  obtain rfl := Option.some.inj (L6.tab_type.symm.trans ht2)
  rw [L6.tab_datum] at hd2
  unfold L6.Tab Lib.TabIs
  rw [hv2, ← Lib.cells_of_tab Tryd.underlying137 Tryd.underlying131 (by kernel_rfl) (by kernel_rfl) hd2]
set_option maxRecDepth 100000 in
set_option maxHeartbeats 1000000 in
theorem core_linesWords (s : List UInt8) (w : World) (hl : s.length ≤ maxLen) (htab : L6.Tab w) : Calls Tryd.prog 4 #[.string ⟨s.toArray⟩] w fun e w' => e = .returned (.bool true) ∧ Below w.heap.size w w' := by
  have CK := Lib.hid (fun W => lknows_any W)
  by_cases hbig : 300 < s.length
  · have hbig' : (300 : Int) < s.length := by omega
    go_enter Tryd.func4, Tryd.ntmps4
    go_wp2_with (go_at_call 11; refine (CK.out _).mono ?_; rintro e w1 ⟨rfl, hb1⟩)
    go_ret
    exact ⟨rfl, hb1⟩
  · have hbig' : ¬ (300 : Int) < s.length := by omega
    have CA := Lib.hid (fun W => lnumber_any s W hl)
    have CB := Lib.hid (fun W => rnumber_any s W hl)
    have CR := Lib.hid (lreg_any s w hl (.inr htab))
    have CS := Lib.hid (fun W => rreg_any s W)
    rw [L6.reg_same] at CS
    clear hl hbig htab
    generalize L6.number s = N at *
    generalize L6.regV s = R at *
    go_enter Tryd.func4, Tryd.ntmps4
    go_wp2_with (first | (go_at_call 17; refine (CA.out _).mono ?_; rintro e w' ⟨rfl, rfl⟩) | (go_at_call 18; refine (CB.out _).mono ?_; rintro e w' ⟨rfl, rfl⟩) | (go_at_call 19; refine CR.out.mono ?_; rintro e w2 ⟨rfl, hb2⟩) | (go_at_call 20; refine (CS.out _).mono ?_; rintro e w3 ⟨rfl, hb3⟩) | (go_at_call 11; refine (CK.out _).mono ?_; rintro e w5 ⟨rfl, hb5⟩))
    go_ret
    have z2 := hb2.size
    have z3 := hb3.size
    exact ⟨rfl, (hb2.trans (hb3.mono (by omega))).trans (hb5.mono (by omega))⟩
theorem walk_linesWords (s : ByteArray) (w : World) (hl : s.size ≤ maxLen) (h : laidMetH Tryd.prog Rows.linesWordsRow.laid w) : Calls Tryd.prog 4 #[.string s] w fun e w' => e = .returned (.bool true) ∧ Below w.heap.size w w' := by
  have := core_linesWords s.data.toList w (by simpa using hl) (L6.tab_of h)
  simpa using this
end Go.Proofs.YtbkgpnilodjdiaaDoor
