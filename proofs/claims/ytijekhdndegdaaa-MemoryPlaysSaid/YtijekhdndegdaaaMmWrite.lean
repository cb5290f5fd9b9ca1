/- Walks: Write. -/
import Derived.Test.YtijekhdndegdaaaMmRead
namespace Go.Proofs.Ytijekhdndegdaaa
open Go.RowKit Kit
set_option linter.unusedVariables false
set_option linter.unusedSimpArgs false

theorem write_err (w : World) (p : Value) (a v : Nat) (n r : Int) (hr : r ≠ 0) (hp : Calls Try.prog 69 #[p, .int .u32 a, .int .i64 n] w fun e w' => e = .returned (.int .i64 r) ∧ Below w.heap.size w w') :
    Calls Try.prog 24 #[p, .int .u32 a, .int .i64 n, .int .u32 v] w fun e w' => e = .returned (.int .i64 r) ∧ Below w.heap.size w w' := by
  have hr' : (r != 0) = true := by simpa using hr
  have H := Lib.hid hp
  clear hp hr
  go_enter Try.func24, Try.ntmps24
  go_wp2_with fail
  refine H.out.mono ?_
  rintro e w1 ⟨rfl, hb⟩
  go_wp2_with fail
  go_ret
  exact ⟨rfl, hb⟩

theorem mbyte (v : Nat) : Value.int .u8 ((v : Int) % 256) = .int .u8 (UInt8.ofNat v).toNat := by
  rw [UInt8.toNat_ofNat']; congr 1

set_option maxRecDepth 20000 in
theorem write_ok (w : World) (gm gb : Nat) (b : List UInt8) (hs : List (Nat × Nat)) (a k v : Nat) (ha : a < 4294967296) (hv : v < 4294967296) (h : OwnM w gm gb b hs) (hk : k = 1 ∨ k = 2 ∨ k = 4) (hak : a + k ≤ b.length) (h0 : Mm.ask b.length hs a k = 0) :
    Calls Try.prog 24 #[.pointer (some ⟨gm, 0, none⟩), .int .u32 a, .int .i64 k, .int .u32 v] w fun e w' => e = .returned (.int .i64 0) ∧ OwnM w' gm gb (Mm.put b a (Mm.bytesOf v k)) hs ∧ But gb w w' := by
  have hA := ask_own w gm gb b hs a k ha h
  rw [h0] at hA
  have H := Lib.hid hA
  have HM := Lib.hid h
  have hhi := h.hi
  clear hA h0 h
  have hk1 : (1 : Int) ≤ k := by omega
  have hk4 : (k : Int) ≤ 4 := by omega
  have hak' : (a : Int) + k ≤ b.length := by omega
  have hhi' : (b.length : Int) ≤ 1048576 := by omega
  have hak2 : (a : Int) ≤ b.length := by omega
  go_enter Try.func24, Try.ntmps24
  go_wp2_with fail
  refine H.out.mono ?_
  rintro e w1 ⟨rfl, hb⟩
  have HM1 := Lib.hid (HM.out.kept hb)
  obtain ⟨A1, c1, cap1, -, -, hrw1, -, hlg, -⟩ := HM1.out.cells
  have hlt := hrw1.lt
  clear hrw1 A1 c1 cap1
  have HB0 := Lib.hid hb
  clear hb
  go_wp2_with fail
  go_loopw [19] (fun i wr => ∃ j : Nat, j ≤ 4 ∧ i = .int .i64 j ∧ Bk wr w1.heap.size 101 (bv (Mm.bytesOf v j ++ List.replicate (4 - j) 0)).toArray ∧ Below w1.heap.size w1 wr) (fun i _ => 4 - (intOf i).toNat)
  case atStart => exact ⟨0, by omega, rfl, Bk.fresh w1 _ _, (Below.refl w1.heap.size w1).alloc (Nat.le_refl _) _⟩
  case round =>
    obtain ⟨j, hj, rfl, hbk, hbr⟩ := hrel
    by_cases hlt : j < 4
    · have hj4 : j = 0 ∨ j = 1 ∨ j = 2 ∨ j = 3 := by omega
      have hf := hbk.free j
      have HBK := Lib.hid hbk
      have HBR := Lib.hid hbr
      have hc : ∃ u, wr.cell? ⟨w1.heap.size, j, none⟩ = some u := by
        rw [hbk.cell]
        have : j < (bv (Mm.bytesOf v j ++ List.replicate (4 - j) 0)).toArray.size := by simp [bv_length, Mm.bytesOf_length]; omega
        exact ⟨_, Array.getElem?_eq_getElem this⟩
      obtain ⟨u, hcu⟩ := hc
      clear hbk hbr
      rcases hj4 with rfl | rfl | rfl | rfl
      · go_wp2
        go_roundw
        case rel =>
          refine ⟨1, by omega, by go_num, ?_, HBR.out.setCell (Nat.le_refl _) _⟩
          have e := HBK.out.set 0 (.int .u8 ((v : Int) % 256))
          have hv1 : (v : Int) % 256 = ((UInt8.ofNat (v)).toNat : Int) := by rw [UInt8.toNat_ofNat']; omega
          rw [hv1] at e ⊢
          simpa [bv, Mm.bytesOf, List.replicate, Nat.div_div_eq_div_mul] using e
        case measure => simp [intOf]
      · go_wp2
        go_roundw
        case rel =>
          refine ⟨2, by omega, by go_num, ?_, HBR.out.setCell (Nat.le_refl _) _⟩
          have e := HBK.out.set 1 (.int .u8 ((v : Int) / 256 % 256))
          have hv1 : (v : Int) / 256 % 256 = ((UInt8.ofNat (v / 256)).toNat : Int) := by rw [UInt8.toNat_ofNat']; omega
          rw [hv1] at e ⊢
          simpa [bv, Mm.bytesOf, List.replicate, Nat.div_div_eq_div_mul] using e
        case measure => simp [intOf]
      · go_wp2
        go_roundw
        case rel =>
          refine ⟨3, by omega, by go_num, ?_, HBR.out.setCell (Nat.le_refl _) _⟩
          have e := HBK.out.set 2 (.int .u8 ((v : Int) / 65536 % 256))
          have hv1 : (v : Int) / 65536 % 256 = ((UInt8.ofNat (v / 65536)).toNat : Int) := by rw [UInt8.toNat_ofNat']; omega
          rw [hv1] at e ⊢
          simpa [bv, Mm.bytesOf, List.replicate, Nat.div_div_eq_div_mul] using e
        case measure => simp [intOf]
      · go_wp2
        go_roundw
        case rel =>
          refine ⟨4, by omega, by go_num, ?_, HBR.out.setCell (Nat.le_refl _) _⟩
          have e := HBK.out.set 3 (.int .u8 ((v : Int) / 16777216))
          have hv1 : (v : Int) / 16777216 = ((UInt8.ofNat (v / 16777216)).toNat : Int) := by rw [UInt8.toNat_ofNat']; omega
          rw [hv1] at e ⊢
          simpa [bv, Mm.bytesOf, List.replicate, Nat.div_div_eq_div_mul] using e
        case measure => simp [intOf]
    · obtain rfl : j = 4 := by omega
      have HBR := Lib.hid hbr
      have hL : (Mm.bytesOf v 4 ++ List.replicate (4 - 4) 0).length = 4 := by simp [Mm.bytesOf_length]
      have HW := Lib.hid (show RdB wr (.slice (some ⟨w1.heap.size, 0, none⟩) k 4) (Mm.bytesOf v k) from by
        refine .inr ⟨w1.heap.size, 0, 4, by rw [Mm.bytesOf_length], hbk.lt, by rw [Mm.bytesOf_length]; omega, by unfold maxLen; omega, fun i hi => ?_⟩
        rw [Mm.bytesOf_length] at hi
        have hi4 : i < 4 := by omega
        rw [hbk.cell]
        have e := Mm.bytesOf_getD v k i hi
        have e4 := Mm.bytesOf_getD v 4 i hi4
        rw [e, ← e4]
        simp [bv, List.getD, Mm.bytesOf_length, hi4, List.getElem?_append])
      have HM2 := Lib.hid (HM1.out.kept hbr)
      have hlr := hbr.size
      obtain ⟨A, c, cap, c0, c1, hrw, hcm, hlg2, hne⟩ := HM2.out.cells
      have hcap := hrw.le
      have hna : ¬ cap = a := by omega
      clear c1 hbk hbr hL
      have HD := Lib.hid hrw
      clear hrw
      have HF := Lib.hid (show a + min (Mm.bytesOf v k).length (b.length - a) ≤ b.length by rw [Mm.bytesOf_length]; omega)
      have HP := Lib.hid (show lay b a ((Mm.bytesOf v k).take (b.length - a)) = Mm.put b a (Mm.bytesOf v k) by
        rw [List.take_of_length_le (by rw [Mm.bytesOf_length]; omega)]; rfl)
      have HPL := Lib.hid (show (Mm.put b a (Mm.bytesOf v k)).length = b.length from Mm.put_length _ _ _ (by rw [Mm.bytesOf_length]; exact hak))
      generalize hB' : Mm.put b a (Mm.bytesOf v k) = B' at *
      generalize hV' : Mm.bytesOf v k = V at *
      have HB' := Lib.hid hB'
      have HV' := Lib.hid hV'
      clear hB' hV'
      have HK := Lib.hid (show ∀ W' V', But gb wr W' → wr.cell? ⟨gm, 0, none⟩ = some V' → W'.cell? ⟨gm, 0, none⟩ = some V' from fun W' V' hb' hc => by
        exact (World.cell?_of_block (a := ⟨gm, 0, none⟩) (hb'.block hlg2 hne)).trans hc)
      generalize hbl : b.length = len at *
      have HBL := Lib.hid hbl
      clear hbl
      go_wp2_with fail
      go_region_held3 (fun W' => W'.cell? ⟨gm, 0, none⟩ = some (.slice (some ⟨gb, 0, none⟩) len cap)) (first | with_reducible exact HK.out _ _ hbut2 c0 | go_keep)
        ((refine step_copyB (by rfl) (.tmp 35) (.tmp 37) 34 34 (by rfl) mbt gb a (len - a) (cap - a) cap (by rfl) _ (by rfl) b V 5 HD.out HW.out (by have := HF.out; have := HBL.out; omega) ?_; intro w2 hg2 hbut2'; have hbut2 : But gb wr w2 := But.undrew hbut2'))
      rw [HP.out] at hg2
      go_wp2
      go_ret
      have hB' := HB'.out
      have hV' := HV'.out
      rw [← hV'] at hB'
      refine ⟨rfl, ?_, ?_⟩
      · rw [hB']
        exact HM2.out.wrote hbut2 (by rw [HPL.out, HBL.out]) (fun cap' hc => by rw [Rw.uniq hc HD.out]; exact hg2)
      · exact (But.of_below (HB0.out.trans (HBR.out.mono HB0.out.size))).trans hbut2
end Go.Proofs.Ytijekhdndegdaaa
