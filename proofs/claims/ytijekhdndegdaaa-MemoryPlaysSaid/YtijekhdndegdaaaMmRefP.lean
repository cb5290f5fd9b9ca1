/- Walks: Put, New of the document's memory. -/
import Derived.Test.YtijekhdndegdaaaMmRefW
import Derived.Deep.RegionLaw
namespace Go.Proofs.Ytijekhdndegdaaa
open Go.RowKit Kit
set_option linter.unusedVariables false
set_option linter.unusedSimpArgs false

theorem Mm.put_take (b : List UInt8) (a : Nat) (l : List UInt8) (j : Nat) (hj : j < l.length) (h : a + l.length ≤ b.length) : Mm.put b a (l.take (j + 1)) = (Mm.put b a (l.take j)).set (a + j) (l.getD j 0) := by
  rw [List.take_succ_eq_append_getElem hj, Mm.put_snoc _ _ _ _ (by simp; omega)]
  simp [List.getD, List.getElem?_eq_getElem hj, Nat.min_eq_left (Nat.le_of_lt hj)]

set_option maxRecDepth 20000 in
theorem rput_own (w : World) (gr gb : Nat) (b : List UInt8) (hs : List (Nat × Nat)) (a : Nat) (v : Value) (l : List UInt8) (ha : a < 4294967296) (h : RefM w gr gb b hs) (hv : RdB w v l) (hvm : l.length ≤ maxLen) (hoff : ∀ g off c, v = .slice (some ⟨g, off, none⟩) l.length c → 0 < l.length → g ≠ gb) :
    Calls Try.prog 80 #[.pointer (some ⟨gr, 0, none⟩), .int .u32 a, v] w fun e w' => e = .returned (.int .i64 (Mm.putE b.length a l.length)) ∧ RefM w' gr gb (Mm.putB b a l) hs ∧ But gb w w' := by
  obtain ⟨A, c, cap, c0, -, hrw, hcm, hgr, hne, -⟩ := h.cells
  have hcap := hrw.le
  have HRW := Lib.hid hrw
  have HM := Lib.hid h
  have hhi := h.hi
  unfold maxLen at hvm
  obtain ⟨Al, cl, rfl⟩ := hv.length
  have HL := Lib.hid (show ∀ j, j < l.length → ∀ W, But gb w W → ∃ g off, Al = some ⟨g, off, none⟩ ∧ W.cell? ⟨g, off + j, none⟩ = some (.int .u8 (l.getD j 0).toNat) from fun j hj W hb => by
    rcases hv with ⟨_, _, _, rfl⟩ | ⟨g, off, cap', e, hg, _, _, hc⟩
    · simp at hj
    · injection e with e e2 e3
      have hne' := hoff g off cl (by rw [e]) (by omega)
      exact ⟨g, off, e, (World.cell?_of_block (a := ⟨g, off + j, none⟩) (hb.block hg hne')).trans (hc j hj)⟩)
  have HC0 := Lib.hid (fun W (hb : But gb w W) => (World.cell?_of_block (a := ⟨gr, 0, none⟩) (hb.block hgr hne)).trans c0)
  clear h hrw hv hoff hcm
  by_cases hin : a + l.length ≤ b.length
  · have e1 : Mm.putE b.length a l.length = 0 := by unfold Mm.putE; rw [if_pos hin]
    have e2 : Mm.putB b a l = Mm.put b a l := by unfold Mm.putB; rw [if_pos hin]
    rw [e1, e2]
    clear e1 e2
    have HPL := Lib.hid (fun j (hj : j ≤ l.length) => Mm.put_length b a (l.take j) (by rw [List.length_take]; omega))
    have HPT := Lib.hid (fun j (hj : j < l.length) => Mm.put_take b a l j hj hin)
    have HP0 := Lib.hid (show Mm.put b a (l.take 0) = b from Mm.put_nil b a)
    have HPA := Lib.hid (show Mm.put b a (l.take l.length) = Mm.put b a l by rw [List.take_of_length_le (Nat.le_refl _)])
    have g1 : decide (b.length < l.length) = false := by simp; omega
    have g2 : decide ((b.length : Int) - (l.length : Int) < (a : Int)) = false := by simp; omega
    have hbi : (b.length : Int) ≤ 1048576 := by omega
    have hli : (l.length : Int) ≤ 1048576 := by omega
    have HIN := Lib.hid hin
    have hini : (a : Int) + (l.length : Int) ≤ b.length := by omega
    clear hhi hvm hin
    generalize hbl : b.length = len at *
    have HBL := Lib.hid hbl
    clear hbl
    generalize hll : l.length = n at *
    have HLL := Lib.hid hll
    clear hll
    go_enter Try.func80, Try.ntmps80
    go_wp2_with fail
    clear g1 g2
    go_loopw [7] (fun i wr => ∃ j : Nat, j ≤ n ∧ i = .int .i64 j ∧ Rw wr gb 5 cap (Mm.put b a (l.take j)) ∧ But gb w wr) (fun i _ => n - (intOf i).toNat)
    case atStart => exact ⟨0, by omega, rfl, by rw [HP0.out]; exact HRW.out, But.of_below (Below.refl _ _)⟩
    case round =>
      obtain ⟨j, hj, rfl, hrw, hbut⟩ := hrel
      have HR := Lib.hid hrw
      have HB := Lib.hid hbut
      have q0 := HC0.out wr hbut
      clear hrw
      by_cases hlt : j < n
      · obtain ⟨g, off, hA, q1⟩ := HL.out j hlt wr hbut
        subst hA
        have hji : (j : Int) < n := by omega
        have hf := HR.out.free (a + j)
        have hc : ∃ u, wr.cell? ⟨gb, a + j, none⟩ = some u := ⟨_, HR.out.cell (j := a + j) (by rw [HPL.out j hj]; have := HBL.out; have := HIN.out; omega)⟩
        obtain ⟨u, hcu⟩ := hc
        have HSJ := Lib.hid (HPT.out j hlt)
        have HSET := Lib.hid (HR.out.set (a + j) (l.getD j 0))
        have HK := Lib.hid (show ∀ W, But gb wr W → W.cell? ⟨gr, 0, none⟩ = some (.slice (some ⟨gb, 0, none⟩) len cap) ∧ W.cell? ⟨g, off + j, none⟩ = some (.int .u8 (l.getD j 0).toNat) from fun W hb => by
          refine ⟨HC0.out W (HB.out.trans hb), ?_⟩
          obtain ⟨g', off', hA, q1⟩ := HL.out j hlt W (HB.out.trans hb)
          simp only [Option.some.injEq, Addr.mk.injEq] at hA
          obtain ⟨rfl, rfl, -⟩ := hA
          exact q1)
        clear hbut
        generalize l.getD j 0 = x at *
        have hx := x.toNat_lt
        have hj0 : (0 : Int) ≤ (j : Int) := by omega
        have haj : IntKind.i64.wrap ((a : Int) + (j : Int)) = (a : Int) + (j : Int) := by rw [IntKind.wrap_i64]; omega
        have haj1 : (0 : Int) ≤ (a : Int) + (j : Int) := by omega
        have haj2 : (a : Int) + (j : Int) < (len : Int) := by omega
        have haj3 : ((a : Int) + (j : Int)).toNat = a + j := by omega
        go_wp2_with fail
        go_region
        all_goals
          go_wp2
          go_roundw
          case rel => exact ⟨j + 1, by omega, by go_num, by rw [HSJ.out]; exact HSET.out.kept (Below.refl _ _).drew, HB.out.trans ((But.setCell wr gb (a + j) _).trans (But.of_below (Below.refl _ _).drew))⟩
          case measure => simp [intOf]; omega
      · obtain rfl : j = n := by omega
        go_wp2
        go_ret
        rw [HPA.out] at HR
        exact ⟨rfl, HM.out.wrote HB.out (by rw [← HPA.out, HPL.out j (Nat.le_refl _)]; exact HBL.out.symm) (fun cap' hc => by rw [Rw.uniq hc HRW.out]; exact HR.out), HB.out⟩
  · have e1 : Mm.putE b.length a l.length = 30 := by unfold Mm.putE; rw [if_neg hin]
    have e2 : Mm.putB b a l = b := by unfold Mm.putB; rw [if_neg hin]
    rw [e1, e2]
    clear e1 e2
    have hbi : (b.length : Int) ≤ 1048576 := by omega
    have hai : (a : Int) < 4294967296 := by omega
    by_cases h1 : b.length < l.length
    · generalize b.length = len at *
      generalize l.length = n at *
      go_enter Try.func80, Try.ntmps80
      go_wp2
      go_ret
      exact ⟨rfl, HM.out, But.of_below (Below.refl _ _)⟩
    · have h2 : (b.length : Int) - (l.length : Int) < (a : Int) := by omega
      have h3 : (l.length : Int) ≤ 1048576 := by omega
      generalize b.length = len at *
      generalize l.length = n at *
      go_enter Try.func80, Try.ntmps80
      go_wp2
      go_ret
      exact ⟨rfl, HM.out, But.of_below (Below.refl _ _)⟩

/-- What the document's maker answers. -/
def Mm.MadeR (b : List UInt8) (hs : List (Nat × Nat)) (w : World) (v : Value) (w' : World) : Prop := ∃ gm gb, v = .pointer (some ⟨gm, 0, none⟩) ∧ RefM w' gm gb b hs ∧ w.heap.size ≤ gm ∧ w.heap.size ≤ gb ∧ Below w.heap.size w w' ∧
  (∀ g, g < w.heap.size → OffM w' 65 gm g)
theorem Mm.madeR {w w' : World} {g cap : Nat} {b : List UInt8} {hs : List (Nat × Nat)} {hv : Value} (hrw : Rw w' g 5 cap b) (hcm : cap ≤ maxLen) (hrd : Rd w' 2 hv hs.length (Mm.hc hs)) (hoff : Off hv g)
    (lo : 4 ≤ b.length) (hi : b.length ≤ 1048576) (few : hs.length ≤ 16) (small : ∀ j, j < hs.length → (hs.getD j (0, 0)).1 < 4294967296 ∧ (hs.getD j (0, 0)).2 < 4294967296)
    (hg : w.heap.size ≤ g) (ho : ∀ g', g' < w.heap.size → Off hv g') (hb : Below w.heap.size w w') :
    Mm.MadeR b hs w (.pointer (some ⟨w'.heap.size, 0, none⟩)) (w'.alloc (.cells #[.slice (some ⟨g, 0, none⟩) b.length cap, hv] 65)) := by
  have hbb := (Below.refl w'.heap.size w').alloc (Nat.le_refl _) (.cells #[.slice (some ⟨g, 0, none⟩) b.length cap, hv] 65)
  refine ⟨w'.heap.size, g, rfl, ⟨⟨hv, cap, Bk.fresh _ _ _, hrw.kept hbb, hcm, hrd.kept hbb, hoff⟩, lo, hi, few, small⟩, hb.size, hg, hb.alloc hb.size _, fun g' hg' x' hv' hbk => ?_⟩
  have := (hbk.uniq (Bk.fresh w' _ _)).2
  simp at this
  rw [this.2]
  exact ho g' hg'
end Go.Proofs.Ytijekhdndegdaaa
