/- Walks: what the laws call: num, knows; Read and Write whole. -/
import Derived.Test.YtijekhdndegdaaaMmMake
namespace Go.Proofs.Ytijekhdndegdaaa
open Go.RowKit Kit
set_option linter.unusedVariables false
set_option linter.unusedSimpArgs false

theorem mnum_any (n : Int) (w : World) : Calls Try.prog 21 #[.int .i64 n] w fun e w' => e = .returned (.int .i64 n) ∧ w = w' := by
  go_enter Try.func21, Try.ntmps21
  go_wp2
  go_ret
  exact ⟨rfl, rfl⟩

/-- What 'Read' tells. -/
def Mm.readV (b : List UInt8) (hs : List (Nat × Nat)) (a : Nat) (n : Int) : Nat := if Mm.ask b.length hs a n = 0 then Mm.val (Mm.get b a n.toNat) else 0
def Mm.writeB (b : List UInt8) (hs : List (Nat × Nat)) (a : Nat) (n : Int) (v : Nat) : List UInt8 := if Mm.ask b.length hs a n = 0 then Mm.put b a (Mm.bytesOf v n.toNat) else b
theorem Mm.writeB_length (b : List UInt8) (hs : List (Nat × Nat)) (a : Nat) (n : Int) (v : Nat) : (Mm.writeB b hs a n v).length = b.length := by
  unfold Mm.writeB
  split
  next h =>
    obtain ⟨k, rfl, _, h2, _⟩ := Mm.ask_ok h
    exact Mm.put_length _ _ _ (by rw [Mm.bytesOf_length]; simpa using h2)
  · rfl
theorem read_own (w : World) (gm gb : Nat) (b : List UInt8) (hs : List (Nat × Nat)) (a : Nat) (n : Int) (ha : a < 4294967296) (h : OwnM w gm gb b hs) :
    Calls Try.prog 22 #[.pointer (some ⟨gm, 0, none⟩), .int .u32 a, .int .i64 n] w fun e w' => e = .returned (.tuple #[.int .u32 (Mm.readV b hs a n), .int .i64 (Mm.ask b.length hs a n)]) ∧ Below w.heap.size w w' := by
  unfold Mm.readV
  by_cases h0 : Mm.ask b.length hs a n = 0
  · obtain ⟨k, rfl, hk, h2, _⟩ := Mm.ask_ok h0
    rw [if_pos h0, h0, Int.toNat_natCast]
    exact read_ok w gm gb b hs a k ha h hk h2 h0
  · rw [if_neg h0]
    exact read_err w _ a n _ h0 (ask_own w gm gb b hs a n ha h)
theorem write_own (w : World) (gm gb : Nat) (b : List UInt8) (hs : List (Nat × Nat)) (a v : Nat) (n : Int) (ha : a < 4294967296) (hv : v < 4294967296) (h : OwnM w gm gb b hs) :
    Calls Try.prog 24 #[.pointer (some ⟨gm, 0, none⟩), .int .u32 a, .int .i64 n, .int .u32 v] w fun e w' => e = .returned (.int .i64 (Mm.ask b.length hs a n)) ∧ OwnM w' gm gb (Mm.writeB b hs a n v) hs ∧ But gb w w' := by
  unfold Mm.writeB
  by_cases h0 : Mm.ask b.length hs a n = 0
  · obtain ⟨k, rfl, hk, h2, _⟩ := Mm.ask_ok h0
    rw [if_pos h0, h0, Int.toNat_natCast]
    exact write_ok w gm gb b hs a k v ha hv h hk h2 h0
  · rw [if_neg h0]
    exact (write_err w _ a v n _ h0 (ask_own w gm gb b hs a n ha h)).mono fun e w' ⟨h1, h2⟩ => ⟨h1, h.kept h2, But.of_below h2⟩

theorem Rd.one {w : World} {p q : Nat} : Rd (w.alloc (.cells #[.int .u32 p, .int .u32 q] 95)) 2 (.slice (some ⟨w.heap.size, 0, none⟩) 1 1) 1 (Mm.hc [(p, q)]) := by
  refine ⟨rfl, _, 1, rfl, Nat.le_refl _, by unfold maxLen; omega, fun _ => ⟨_, 0, rfl, by simp, fun j u hu => ?_⟩⟩
  have hb := Bk.fresh w 95 #[.int .u32 (p : Int), .int .u32 (q : Int)]
  rw [hb.cell]
  simpa [Mm.hc] using hu

set_option maxRecDepth 20000 in
theorem mknows_any (w : World) : Calls Try.prog 18 #[] w fun e w' => e = .returned (.bool true) ∧ Below w.heap.size w w' := by
  have HN := Lib.hid (new_ok (w.alloc (.cells #[.int .u32 4, .int .u32 5] 95)) 8 (some ⟨w.heap.size, 0, none⟩) 1 [(4, 5)] (Rd.one (p := 4) (q := 5)) (by
    intro j hj
    obtain rfl : j = 0 := by simpa using hj
    decide) (by decide))
  have hb0 := Lib.hid ((Below.refl w.heap.size w).alloc (Nat.le_refl _) (.cells #[.int .u32 4, .int .u32 5] 95))
  go_enter Try.func18, Try.ntmps18
  go_wp2_with fail
  refine HN.out.mono ?_
  rintro e w1 ⟨v, rfl, gm, gb, rfl, hm, hg1, hg2, hb, hoff⟩
  have HB1 := Lib.hid (hb0.out.trans (hb.mono (by simp)))
  have hgb : w.heap.size ≤ gb := Nat.le_trans (by simp) hg2
  have HW := write_own w1 gm gb _ _ 0 258 4 (by decide) (by decide) hm
  rw [show Mm.ask (List.replicate 8 (0 : UInt8)).length [(4, 5)] 0 4 = 0 by decide, show Mm.writeB (List.replicate 8 (0 : UInt8)) [(4, 5)] 0 4 258 = [2, 1, 0, 0, 0, 0, 0, 0] by decide] at HW
  have HWW := Lib.hid HW
  clear hm hb hoff hg1 hg2 HW
  go_wp2_with fail
  refine HWW.out.mono ?_
  rintro e w2 ⟨rfl, hm2, hbut⟩
  have HB2 := Lib.hid (HB1.out.trans (hbut.below hgb HB1.out.size))
  have HR := read_own w2 gm gb _ _ 0 1 (by decide) hm2
  rw [show Mm.ask ([2, 1, 0, 0, 0, 0, 0, 0] : List UInt8).length [(4, 5)] 0 1 = 0 by decide, show Mm.readV [2, 1, 0, 0, 0, 0, 0, 0] [(4, 5)] 0 1 = 2 by decide] at HR
  have HRR := Lib.hid HR
  have HM2 := Lib.hid hm2
  clear hm2 hbut HR
  go_wp2_with fail
  refine HRR.out.mono ?_
  rintro e w3 ⟨rfl, hb3⟩
  have HR := read_own w3 gm gb _ _ 4 4 (by decide) (HM2.out.kept hb3)
  rw [show Mm.ask ([2, 1, 0, 0, 0, 0, 0, 0] : List UInt8).length [(4, 5)] 4 4 = 30 by decide, show Mm.readV [2, 1, 0, 0, 0, 0, 0, 0] [(4, 5)] 4 4 = 0 by decide] at HR
  have HRR3 := Lib.hid HR
  have HB3 := Lib.hid (HB2.out.trans (hb3.mono HB2.out.size))
  clear hb3 HR
  go_wp2_with fail
  refine HRR3.out.mono ?_
  rintro e w4 ⟨rfl, hb4⟩
  go_wp2_with (go_at_call 21; refine (mnum_any _ _).mono ?_; rintro e w' ⟨rfl, rfl⟩)
  go_ret
  exact ⟨rfl, HB3.out.trans (hb4.mono HB3.out.size)⟩
end Go.Proofs.Ytijekhdndegdaaa
