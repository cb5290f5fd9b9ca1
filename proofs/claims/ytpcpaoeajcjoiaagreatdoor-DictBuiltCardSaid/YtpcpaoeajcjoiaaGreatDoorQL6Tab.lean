/- Texts joined, what is not reached left out. -/
import Derived.Test.YtpcpaoeajcjoiaaGreatDoorKU
import Derived.LaidMore
import Derived.LaidHandle
import Derived.MakeChecks
set_option linter.unusedVariables false
set_option linter.unusedSimpArgs false
namespace Go.Proofs.YtpcpaoeajcjoiaaGreatDoor
open Go.RowKit Kit
theorem L6.tab_named : Tryz.prog.globalNamed "internal/strconv.uint64pow10" = some 1 := by kernel_rfl
theorem L6.tab_type:(Tryz.prog.globals[1]?).map (·.type) = some 349:=by kernel_rfl
theorem L6.Tab.kept {w w':World} (h:L6.Tab w) (hb:Below w.heap.size w w'):L6.Tab w':=by
 unfold L6.Tab Lib.TabIs at *
 unfold World.var? at *
 rw [L6.tab_named] at *
 simp only [Option.bind_some] at *
 cases hg:w.heap[1]? with
 | none=>rw [hg] at h;cases h
 | some o=>
  rw [hb.block _ (Array.getElem?_eq_some_iff.1 hg).1]
  exact h
theorem L6.tab_datum:(Rows.laid_internal_strconv_uint64pow10:DataW Unit) = Lib.tabData .u64 Lib.pow10Tab:=by kernel_rfl
theorem L6.tab_of {W : World} (h : laidMetH Tryz.prog [("math/bits.deBruijn32tab", Rows.laid_math_bits_deBruijn32tab), ("math/bits.deBruijn64tab", Rows.laid_math_bits_deBruijn64tab), ("internal/strconv.uint64pow10", Rows.laid_internal_strconv_uint64pow10)] W) : L6.Tab W := by
 rw [MakeChecks.laidMetH_plain _ _ _ (by kernel_rfl)] at h
 obtain ⟨ps,⟨g0,t0,cs0,f0,p0,q0,hg0,ht0,hv0,hd0,⟨g1,t1,cs1,f1,p1,q1,hg1,ht1,hv1,hd1,⟨g2,t2,cs2,f2,p2,q2,hg2,ht2,hv2,hd2,_,_⟩,_⟩,_⟩,_,_⟩:=h
 obtain rfl:=Option.some.inj (L6.tab_named.symm.trans hg2)
 obtain rfl:=Option.some.inj (L6.tab_type.symm.trans ht2)
 rw [L6.tab_datum] at hd2
 unfold L6.Tab Lib.TabIs
 rw [hv2,← Lib.cells_of_tab Tryz.underlying349 Tryz.underlying53 (by kernel_rfl) (by kernel_rfl) hd2]
end Go.Proofs.YtpcpaoeajcjoiaaGreatDoor
