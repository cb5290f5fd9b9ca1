/- Walks: Read, Write of the document's memory. -/
import Derived.Test.YtijekhdndegdaaaMmRef
namespace Go.Proofs.Ytijekhdndegdaaa
open Go.RowKit Kit
set_option linter.unusedVariables false
set_option linter.unusedSimpArgs false

theorem RefM.kept {w w' : World} {gm gb : Nat} {b : List UInt8} {hs : List (Nat × Nat)} (h : RefM w gm gb b hs) (hb : Below w.heap.size w w') : RefM w' gm gb b hs := by
  obtain ⟨hv, cap, h1, h2, h3, h4, h5⟩ := h.obj
  exact ⟨⟨hv, cap, h1.kept hb, h2.kept hb, h3, h4.kept hb, h5⟩, h.lo, h.hi, h.few, h.small⟩
theorem RefM.but {w w' : World} {gm gb g : Nat} {b : List UInt8} {hs : List (Nat × Nat)} (h : RefM w gm gb b hs) (hb : But g w w') (h1 : gm ≠ g) (h2 : gb ≠ g) (h3 : OffM w 65 gm g) : RefM w' gm gb b hs := by
  obtain ⟨hv, cap, k1, k2, k3, k4, k5⟩ := h.obj
  exact ⟨⟨hv, cap, hb.bk k1 h1, k2.but hb h2, k3, k4.but hb (h3 _ hv k1), k5⟩, h.lo, h.hi, h.few, h.small⟩
theorem RefM.wrote {w w' : World} {gm gb : Nat} {b b' : List UInt8} {hs : List (Nat × Nat)} (h : RefM w gm gb b hs) (hb : But gb w w') (hl : b'.length = b.length) (hd : ∀ cap, Rw w gb 5 cap b → Rw w' gb 5 cap b') : RefM w' gm gb b' hs := by
  obtain ⟨hv, cap, k1, k2, k3, k4, k5⟩ := h.obj
  have hne : gm ≠ gb := k2.ne k1 (by decide)
  exact ⟨⟨hv, cap, by rw [hl]; exact hb.bk k1 hne, hd cap k2, k3, k4.but hb k5, k5⟩, by rw [hl]; exact h.lo, by rw [hl]; exact h.hi, h.few, h.small⟩

theorem rread_err (w : World) (p : Value) (a : Nat) (n r : Int) (hr : r ≠ 0) (hp : Calls Try.prog 97 #[p, .int .u32 a, .int .i64 n] w fun e w' => e = .returned (.int .i64 r) ∧ w = w') :
    Calls Try.prog 77 #[p, .int .u32 a, .int .i64 n] w fun e w' => e = .returned (.tuple #[.int .u32 0, .int .i64 r]) ∧ w = w' := by
  have hr' : (r != 0) = true := by simpa using hr
  have H := Lib.hid hp
  clear hp hr
  go_enter Try.func77, Try.ntmps77
  go_wp2_with fail
  refine H.out.mono ?_
  rintro e w1 ⟨rfl, rfl⟩
  go_wp2_with fail
  go_ret2
  exact ⟨rfl, rfl⟩

set_option maxRecDepth 20000 in
theorem rread_ok (w : World) (gr gb : Nat) (b : List UInt8) (hs : List (Nat × Nat)) (a k : Nat) (ha : a < 4294967296) (h : RefM w gr gb b hs) (hk : k = 1 ∨ k = 2 ∨ k = 4) (hak : a + k ≤ b.length) (h0 : Mm.ask b.length hs a k = 0) :
    Calls Try.prog 77 #[.pointer (some ⟨gr, 0, none⟩), .int .u32 a, .int .i64 k] w fun e w' => e = .returned (.tuple #[.int .u32 (Mm.val (Mm.get b a k)), .int .i64 0]) ∧ w = w' := by
  have hA := rask_own w gr gb b hs a k ha h
  rw [h0] at hA
  have H := Lib.hid hA
  obtain ⟨A, c, cap, c0, -, hrw, hcm, -, -, -⟩ := h.cells
  have hcap := hrw.le
  have HC := Lib.hid (fun j (hj : j < b.length) => hrw.cell hj)
  have hhi : (b.length : Int) ≤ 1048576 := by have := h.hi; omega
  clear hA h0 h hrw hcm
  have hk1 : (1 : Int) ≤ k := by omega
  have hk4 : (k : Int) ≤ 4 := by omega
  have hak' : (a : Int) + k ≤ b.length := by omega
  have HAK := Lib.hid hak
  have hk4' : k ≤ 4 := by omega
  have HV := Lib.hid (show ∀ j, j < k → Mm.val (Mm.get b (a + j) (k - j)) = (b.getD (a + j) 0).toNat + 256 * Mm.val (Mm.get b (a + (j + 1)) (k - (j + 1))) from fun j hj => by
    have := Mm.val_cons b (a + j) (k - (j + 1)) (by omega)
    rw [show k - (j + 1) + 1 = k - j by omega] at this
    exact this)
  have HLT := Lib.hid (show ∀ j, j < k → Mm.val (Mm.get b (a + (j + 1)) (k - (j + 1))) < 16777216 from fun j hj => by
    have h1 := Mm.val_lt (Mm.get b (a + (j + 1)) (k - (j + 1)))
    rw [Mm.get_length b _ _ (by omega)] at h1
    have h2 : (256 : Nat) ^ (k - (j + 1)) ≤ 256 ^ 3 := Nat.pow_le_pow_right (by decide) (by omega)
    omega)
  have HE := Lib.hid (show Mm.val (Mm.get b (a + k) (k - k)) = 0 by rw [Nat.sub_self]; simp [Mm.get, Mm.val])
  clear hk
  generalize hl : b.length = len at *
  clear hl
  go_enter Try.func77, Try.ntmps77
  go_wp2_with fail
  refine H.out.mono ?_
  rintro e w1 ⟨rfl, rfl⟩
  go_wp2_with fail
  go_loop [9, 10] (fun v i => ∃ j : Nat, j ≤ k ∧ i = .int .i64 ((j : Int) - 1) ∧ v = .int .u32 (Mm.val (Mm.get b (a + j) (k - j)))) (fun _ i => (intOf i + 1).toNat)
  case atStart => exact ⟨k, Nat.le_refl _, rfl, by rw [HE.out]; rfl⟩
  case round =>
    obtain ⟨j, hj, rfl, rfl⟩ := hrel
    by_cases hlt : 0 < j
    · obtain ⟨i, rfl⟩ : ∃ i, j = i + 1 := ⟨j - 1, by omega⟩
      have q := HC.out (a + i) (by have := HAK.out; omega)
      have hv := HLT.out i (by omega)
      have HVI := Lib.hid (HV.out i (by omega))
      have hb := (b.getD (a + i) 0).toNat_lt
      generalize b.getD (a + i) 0 = x at *
      generalize Mm.val (Mm.get b (a + (i + 1)) (k - (i + 1))) = V at *
      have hx : (x.toNat : Int) < 256 := by omega
      have hV : (V : Int) < 16777216 := by omega
      rw [show (((i + 1 : Nat) : Int) - 1) = (i : Int) by omega]
      go_wp2
      go_round
      case rel => exact ⟨i, by omega, by go_num, by rw [HVI.out]; congr 1; simp; omega⟩
      case measure => simp [intOf]
    · obtain rfl : j = 0 := by omega
      go_wp2
      go_ret2
      exact ⟨rfl, rfl⟩
theorem rread_own (w : World) (gr gb : Nat) (b : List UInt8) (hs : List (Nat × Nat)) (a : Nat) (n : Int) (ha : a < 4294967296) (h : RefM w gr gb b hs) :
    Calls Try.prog 77 #[.pointer (some ⟨gr, 0, none⟩), .int .u32 a, .int .i64 n] w fun e w' => e = .returned (.tuple #[.int .u32 (Mm.readV b hs a n), .int .i64 (Mm.ask b.length hs a n)]) ∧ w = w' := by
  unfold Mm.readV
  by_cases h0 : Mm.ask b.length hs a n = 0
  · obtain ⟨k, rfl, hk, h2, _⟩ := Mm.ask_ok h0
    rw [if_pos h0, h0, Int.toNat_natCast]
    exact rread_ok w gr gb b hs a k ha h hk h2 h0
  · rw [if_neg h0]
    exact rread_err w _ a n _ h0 (rask_own w gr gb b hs a n ha h)
end Go.Proofs.Ytijekhdndegdaaa
