/- Walks: Read. -/
import Derived.Test.YtijekhdndegdaaaMmAsk
import Derived.Deep.RegionLaw
import Derived.Deep.RegionHeld3
import Derived.Outline
namespace Go.Proofs.Ytijekhdndegdaaa
open Go.RowKit Kit
set_option linter.unusedVariables false
set_option linter.unusedSimpArgs false

theorem mor (a b k : Nat) (ha : a < 2 ^ k) (hs : a + b * 2 ^ k < 4294967296) : bits .or .u32 (a : Int) ((b * 2 ^ k : Nat) : Int) = ((a + b * 2 ^ k : Nat) : Int) := by
  rw [u32_or_nat a (b * 2 ^ k) (by omega) (by omega), Nat.or_comm, Nat.mul_comm b, ← Nat.two_pow_add_eq_or_of_lt ha, Nat.add_comm]
theorem read_err (w : World) (p : Value) (a : Nat) (n r : Int) (hr : r ≠ 0) (hp : Calls Try.prog 69 #[p, .int .u32 a, .int .i64 n] w fun e w' => e = .returned (.int .i64 r) ∧ Below w.heap.size w w') :
    Calls Try.prog 22 #[p, .int .u32 a, .int .i64 n] w fun e w' => e = .returned (.tuple #[.int .u32 0, .int .i64 r]) ∧ Below w.heap.size w w' := by
  have hr' : (r != 0) = true := by simpa using hr
  have H := Lib.hid hp
  clear hp hr
  go_enter Try.func22, Try.ntmps22
  go_wp2_with fail
  refine H.out.mono ?_
  rintro e w1 ⟨rfl, hb⟩
  go_wp2_with fail
  go_ret2
  exact ⟨rfl, hb⟩

set_option maxRecDepth 20000 in
theorem read_ok (w : World) (gm gb : Nat) (b : List UInt8) (hs : List (Nat × Nat)) (a k : Nat) (ha : a < 4294967296) (h : OwnM w gm gb b hs) (hk : k = 1 ∨ k = 2 ∨ k = 4) (hak : a + k ≤ b.length) (h0 : Mm.ask b.length hs a k = 0) :
    Calls Try.prog 22 #[.pointer (some ⟨gm, 0, none⟩), .int .u32 a, .int .i64 k] w fun e w' => e = .returned (.tuple #[.int .u32 (Mm.val (Mm.get b a k)), .int .i64 0]) ∧ Below w.heap.size w w' := by
  have hA := ask_own w gm gb b hs a k ha h
  rw [h0] at hA
  have H := Lib.hid hA
  have HM := Lib.hid h
  have hhi := h.hi
  clear hA h0 h
  have hk1 : (1 : Int) ≤ k := by omega
  have hk4 : (k : Int) ≤ 4 := by omega
  have hak' : (a : Int) + k ≤ b.length := by omega
  have hhi' : (b.length : Int) ≤ 1048576 := by omega
  have hak2 : (a : Int) ≤ b.length := by omega
  go_enter Try.func22, Try.ntmps22
  go_wp2_with fail
  refine H.out.mono ?_
  rintro e w1 ⟨rfl, hb⟩
  have HM1 := Lib.hid (HM.out.kept hb)
  obtain ⟨A, c, cap, c0, c1, hrw, hcm, hlg, hne⟩ := HM1.out.cells
  clear c1
  have hlt := hrw.lt
  have hcap := hrw.le
  have HRW := Lib.hid hrw
  clear hrw
  go_wp2_with fail
  have hna : ¬ cap = a := by omega
  have HD := Lib.hid (show ∀ W', Below w1.heap.size w1 W' → RdB W' (.slice (some ⟨gb, a, none⟩) (b.length - a) (cap - a)) (b.drop a) from fun W' hb' => by
    have := (HRW.out.kept hb').part a (b.length - a) (cap - a) (by omega) (by omega) (by omega)
    rwa [List.take_of_length_le (by simp)] at this)
  have HL := Lib.hid (show (b.drop a).length = b.length - a by simp)
  have HG := Lib.hid (show (b.drop a).take k = Mm.get b a k from rfl)
  have HZ := Lib.hid (show Rw (w1.alloc (.cells #[.int .u8 0, .int .u8 0, .int .u8 0, .int .u8 0] 101)).drew w1.heap.size 101 4 [0, 0, 0, 0] from Rw.of (b := [0, 0, 0, 0]) (Bk.fresh w1 _ _))
  have HD1 := Lib.hid (HD.out _ (((Below.refl w1.heap.size w1).alloc (Nat.le_refl _) (.cells #[.int .u8 0, .int .u8 0, .int .u8 0, .int .u8 0] 101)).drew))
  generalize b.length = len at *
  generalize b.drop a = L at *
  have HF1 := Lib.hid (show 0 + min L.length k ≤ ([0, 0, 0, 0] : List UInt8).length by simp; omega)
  have HK := Lib.hid (show ∀ W', Below w1.heap.size w1 W' → W'.cell? ⟨gm, 0, none⟩ = some (.slice (some ⟨gb, 0, none⟩) len cap) from fun W' hb' => (hb'.cell (p := ⟨gm, 0, none⟩) hlg).trans c0)
  have HB1 := Lib.hid ((((Below.refl w1.heap.size w1).alloc (Nat.le_refl _) (.cells #[.int .u8 0, .int .u8 0, .int .u8 0, .int .u8 0] 101)).drew))
  go_region_held3 (fun W' => W'.cell? ⟨gm, 0, none⟩ = some (.slice (some ⟨gb, 0, none⟩) len cap)) (first | with_reducible exact HK.out _ hbw2 | go_keep)
    ((refine step_copyB (by rfl) (.tmp 21) (.tmp 27) 34 34 (by rfl) mbt w1.heap.size 0 k 4 4 (by rfl) _ (by rfl) [0, 0, 0, 0] L 101 HZ.out HD1.out HF1.out ?_; intro w2 hg2 hbut2; have hbw2 := HB1.out.trans (hbut2.below (Nat.le_refl _) (by simp))))
  have hlen4 : (lay [0, 0, 0, 0] 0 (L.take k)).length = 4 := by simp [lay, HL.out]; omega
  have HV := Lib.hid (show lay [0, 0, 0, 0] 0 (L.take k) = Mm.get b a k ++ List.replicate (4 - k) 0 from by
    rw [HG.out]
    have hgl : (Mm.get b a k).length = k := by rw [← HG.out, List.length_take, HL.out]; omega
    have : (4 : Nat) - k = 3 ∨ 4 - k = 2 ∨ 4 - k = 0 := by omega
    simp only [lay, List.take_zero, List.nil_append, hgl, Nat.zero_add]
    congr 1
    rcases hk with rfl | rfl | rfl <;> rfl)
  generalize lay [0, 0, 0, 0] 0 (L.take k) = R at *
  obtain ⟨r0, r1, r2, r3, rfl⟩ : ∃ r0 r1 r2 r3, R = [r0, r1, r2, r3] := by
    match R, hlen4 with
    | [r0, r1, r2, r3], _ => exact ⟨r0, r1, r2, r3, rfl⟩
  have q0 : w2.cell? ⟨w1.heap.size, 0, none⟩ = some (.int .u8 r0.toNat) := hg2.cell (j := 0) (by simp)
  have q1 : w2.cell? ⟨w1.heap.size, 1, none⟩ = some (.int .u8 r1.toNat) := hg2.cell (j := 1) (by simp)
  have q2 : w2.cell? ⟨w1.heap.size, 2, none⟩ = some (.int .u8 r2.toNat) := hg2.cell (j := 2) (by simp)
  have q3 : w2.cell? ⟨w1.heap.size, 3, none⟩ = some (.int .u8 r3.toNat) := hg2.cell (j := 3) (by simp)
  have l0 := r0.toNat_lt
  have l1 := r1.toNat_lt
  have l2 := r2.toNat_lt
  have l3 := r3.toNat_lt
  have HBW := Lib.hid (hb.trans (hbw2.mono hb.size))
  have HVV := Lib.hid (show Mm.val [r0, r1, r2, r3] = Mm.val (Mm.get b a k) by rw [HV.out, Mm.val_append, Mm.val_zeros]; simp)
  clear hlen4 hg2 hbut2
  have i0 : ∀ W, (Instr.index 101 (.agg #[.int .u8 r0.toNat, .int .u8 r1.toNat, .int .u8 r2.toNat, .int .u8 r3.toNat]) (.int .i64 0)).run Try.prog W = .ok (.int .u8 r0.toNat) W := fun _ => by kernel_rfl
  have i1 : ∀ W, (Instr.index 101 (.agg #[.int .u8 r0.toNat, .int .u8 r1.toNat, .int .u8 r2.toNat, .int .u8 r3.toNat]) (.int .i64 1)).run Try.prog W = .ok (.int .u8 r1.toNat) W := fun _ => by kernel_rfl
  have i2 : ∀ W, (Instr.index 101 (.agg #[.int .u8 r0.toNat, .int .u8 r1.toNat, .int .u8 r2.toNat, .int .u8 r3.toNat]) (.int .i64 2)).run Try.prog W = .ok (.int .u8 r2.toNat) W := fun _ => by kernel_rfl
  have i3 : ∀ W, (Instr.index 101 (.agg #[.int .u8 r0.toNat, .int .u8 r1.toNat, .int .u8 r2.toNat, .int .u8 r3.toNat]) (.int .i64 3)).run Try.prog W = .ok (.int .u8 r3.toNat) W := fun _ => by kernel_rfl
  go_wp2_with fail
  go_loop [10, 30] (fun v i => ∃ j : Nat, j ≤ 4 ∧ i = .int .i64 j ∧ v = .int .u32 (Mm.val ([r0, r1, r2, r3].take j))) (fun _ i => 4 - (intOf i).toNat)
  case atStart => exact ⟨0, by omega, rfl, rfl⟩
  case round =>
    obtain ⟨j, hj, rfl, rfl⟩ := hrel
    by_cases hlt : j < 4
    · have hj4 : j = 0 ∨ j = 1 ∨ j = 2 ∨ j = 3 := by omega
      rcases hj4 with rfl | rfl | rfl | rfl
      · have E := Lib.hid (mor 0 r0.toNat 0 (by omega) (by omega))
        simp only [List.take_zero, List.take_succ_cons, Mm.val]
        go_wp2
        go_round
        case rel => exact ⟨1, by omega, by go_num, by
          have e := E.out
          simp at e
          simp only [List.take_zero, List.take_succ_cons, Mm.val]
          rw [e]
          first | rfl | (congr 1; simp; try omega)⟩
        case measure => simp [intOf]
      · have E := Lib.hid (mor r0.toNat r1.toNat 8 (by omega) (by omega))
        simp only [List.take_zero, List.take_succ_cons, Mm.val]
        go_wp2
        go_round
        case rel => exact ⟨2, by omega, by go_num, by
          have e := E.out
          simp at e
          simp only [List.take_zero, List.take_succ_cons, Mm.val]
          rw [e]
          first | rfl | (congr 1; simp; try omega)⟩
        case measure => simp [intOf]
      · have E := Lib.hid (mor (r0.toNat + 256 * r1.toNat) r2.toNat 16 (by omega) (by omega))
        simp only [List.take_zero, List.take_succ_cons, Mm.val]
        go_wp2
        go_round
        case rel => exact ⟨3, by omega, by go_num, by
          have e := E.out
          simp at e
          simp only [List.take_zero, List.take_succ_cons, Mm.val]
          rw [e]
          first | rfl | (congr 1; simp; try omega)⟩
        case measure => simp [intOf]
      · have E := Lib.hid (mor (r0.toNat + 256 * (r1.toNat + 256 * r2.toNat)) r3.toNat 24 (by omega) (by omega))
        simp only [List.take_zero, List.take_succ_cons, Mm.val]
        go_wp2
        go_round
        case rel => exact ⟨4, by omega, by go_num, by
          have e := E.out
          simp at e
          simp only [List.take_zero, List.take_succ_cons, Mm.val]
          rw [e]
          first | rfl | (congr 1; simp; try omega)⟩
        case measure => simp [intOf]
    · obtain rfl : j = 4 := by omega
      go_wp2
      go_ret2
      exact ⟨by rw [← HVV.out]; rfl, HBW.out⟩
end Go.Proofs.Ytijekhdndegdaaa
