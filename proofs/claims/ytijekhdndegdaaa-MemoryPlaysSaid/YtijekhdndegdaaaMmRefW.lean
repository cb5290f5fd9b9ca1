/- Walks: Write, Bytes, Put of the document's memory. -/
import Derived.Test.YtijekhdndegdaaaMmRefRW
import Derived.Deep.DeepCutAuto
namespace Go.Proofs.Ytijekhdndegdaaa
open Go.RowKit Kit
set_option linter.unusedVariables false
set_option linter.unusedSimpArgs false

theorem rwrite_err (w : World) (p : Value) (a v : Nat) (n r : Int) (hv : v < 4294967296) (hr : r ≠ 0) (hp : Calls Try.prog 97 #[p, .int .u32 a, .int .i64 n] w fun e w' => e = .returned (.int .i64 r) ∧ w = w') :
    Calls Try.prog 78 #[p, .int .u32 a, .int .i64 n, .int .u32 v] w fun e w' => e = .returned (.int .i64 r) ∧ w = w' := by
  have hr' : (r == 0) = false := by simpa using hr
  have H := Lib.hid hp
  clear hp hr
  go_enter Try.func78, Try.ntmps78
  go_wp2_with fail
  refine H.out.mono ?_
  rintro e w1 ⟨rfl, rfl⟩
  go_wp2_with fail
  go_loop [10] (fun i => i = .int .i64 0) (fun _ => 0)
  case atStart => rfl
  case round =>
    subst hrel
    by_cases h0 : 0 < n
    · go_wp2
      go_ret
      exact ⟨rfl, rfl⟩
    · go_wp2
      go_ret
      exact ⟨rfl, rfl⟩

set_option maxRecDepth 20000 in
theorem rwrite_ok (w : World) (gr gb : Nat) (b : List UInt8) (hs : List (Nat × Nat)) (a k v : Nat) (ha : a < 4294967296) (hv : v < 4294967296) (h : RefM w gr gb b hs) (hk : k = 1 ∨ k = 2 ∨ k = 4) (hak : a + k ≤ b.length) (h0 : Mm.ask b.length hs a k = 0) :
    Calls Try.prog 78 #[.pointer (some ⟨gr, 0, none⟩), .int .u32 a, .int .i64 k, .int .u32 v] w fun e w' => e = .returned (.int .i64 0) ∧ RefM w' gr gb (Mm.put b a (Mm.bytesOf v k)) hs ∧ But gb w w' := by
  have hA := rask_own w gr gb b hs a k ha h
  rw [h0] at hA
  have H := Lib.hid hA
  have HM := Lib.hid h
  obtain ⟨A, c, cap, c0, -, hrw, hcm, hgr, hne, -⟩ := h.cells
  have hcap := hrw.le
  have HRW := Lib.hid hrw
  have hhi : (b.length : Int) ≤ 1048576 := by have := h.hi; omega
  clear hA h0 h hrw hcm
  have hk1 : (1 : Int) ≤ k := by omega
  have hk4 : (k : Int) ≤ 4 := by omega
  have hak' : (a : Int) + k ≤ b.length := by omega
  have HAK := Lib.hid hak
  have HV := Lib.hid hv
  have HC0 := Lib.hid (fun W (hb : But gb w W) => (World.cell?_of_block (a := ⟨gr, 0, none⟩) (hb.block hgr hne)).trans c0)
  have HBL := Lib.hid (fun j => Mm.bytesOf_length v j)
  have HPL := Lib.hid (fun j (hj : j ≤ k) => Mm.put_length b a (Mm.bytesOf v j) (by rw [Mm.bytesOf_length]; omega))
  have HPS := Lib.hid (fun j (hj : j < k) => by
    have := Mm.put_snoc b a (Mm.bytesOf v j) (UInt8.ofNat (v / 256 ^ j)) (by rw [Mm.bytesOf_length]; omega)
    rw [← Mm.bytesOf_succ, Mm.bytesOf_length] at this
    exact (this : Mm.put b a (Mm.bytesOf v (j + 1)) = (Mm.put b a (Mm.bytesOf v j)).set (a + j) (UInt8.ofNat (v / 256 ^ j))))
  have HD := Lib.hid (show ∀ j, v / 256 ^ (j + 1) = v / 256 ^ j / 256 from fun j => by rw [Nat.pow_succ, Nat.div_div_eq_div_mul])
  have HDL := Lib.hid (show ∀ j, v / 256 ^ j < 4294967296 from fun j => Nat.lt_of_le_of_lt (Nat.div_le_self _ _) hv)
  have HP0 := Lib.hid (show Mm.put b a (Mm.bytesOf v 0) = b from Mm.put_nil b a)
  clear hk hv
  generalize hl : b.length = len at *
  have HLL := Lib.hid hl
  clear hl
  go_enter Try.func78, Try.ntmps78
  go_wp2_with fail
  refine H.out.mono ?_
  rintro e w1 ⟨rfl, rfl⟩
  go_wp2_with fail
  go_loopw [3, 10] (fun x i wr => ∃ j : Nat, j ≤ k ∧ i = .int .i64 j ∧ x = .int .u32 ((v / 256 ^ j : Nat) : Int) ∧ Rw wr gb 5 cap (Mm.put b a (Mm.bytesOf v j)) ∧ But gb w wr) (fun _ i _ => k - (intOf i).toNat)
  case atStart => exact ⟨0, by omega, rfl, by simp, by rw [HP0.out]; exact HRW.out, But.of_below (Below.refl _ _)⟩
  case round =>
    obtain ⟨j, hj, rfl, rfl, hrw, hbut⟩ := hrel
    have HR := Lib.hid hrw
    have HB := Lib.hid hbut
    have q0 := HC0.out wr hbut
    clear hrw hbut
    by_cases hlt : j < k
    · have hji : (j : Int) < k := by omega
      have hf := HR.out.free (a + j)
      have hc : ∃ u, wr.cell? ⟨gb, a + j, none⟩ = some u := ⟨_, HR.out.cell (j := a + j) (by rw [HPL.out j hj]; have := HLL.out; omega)⟩
      obtain ⟨u, hcu⟩ := hc
      have hd := HDL.out j
      have HDJ := Lib.hid (HD.out j)
      have HSJ := Lib.hid (HPS.out j hlt)
      generalize hV : v / 256 ^ j = V at *
      have hVi : (V : Int) < 4294967296 := by omega
      clear hV
      have HSET := Lib.hid (HR.out.set (a + j) (UInt8.ofNat V))
      have hv1 : (V : Int) % 256 = ((UInt8.ofNat V).toNat : Int) := by rw [UInt8.toNat_ofNat']; omega
      have HV1 := Lib.hid hv1
      clear hv1
      go_wp2
      go_roundw
      case rel =>
        refine ⟨j + 1, by omega, by go_num, by rw [HDJ.out]; congr 1, ?_, HB.out.trans (But.setCell _ _ _ _)⟩
        rw [HSJ.out, HV1.out]
        exact HSET.out
      case measure => simp [intOf]; omega
    · obtain rfl : j = k := by omega
      go_wp2
      go_ret
      exact ⟨rfl, HM.out.wrote HB.out (by rw [HPL.out j (Nat.le_refl _)]; exact HLL.out.symm) (fun cap' hc => by rw [Rw.uniq hc HRW.out]; exact HR.out), HB.out⟩
theorem rwrite_own (w : World) (gr gb : Nat) (b : List UInt8) (hs : List (Nat × Nat)) (a v : Nat) (n : Int) (ha : a < 4294967296) (hv : v < 4294967296) (h : RefM w gr gb b hs) :
    Calls Try.prog 78 #[.pointer (some ⟨gr, 0, none⟩), .int .u32 a, .int .i64 n, .int .u32 v] w fun e w' => e = .returned (.int .i64 (Mm.ask b.length hs a n)) ∧ RefM w' gr gb (Mm.writeB b hs a n v) hs ∧ But gb w w' := by
  unfold Mm.writeB
  by_cases h0 : Mm.ask b.length hs a n = 0
  · obtain ⟨k, rfl, hk, h2, _⟩ := Mm.ask_ok h0
    rw [if_pos h0, h0, Int.toNat_natCast]
    exact rwrite_ok w gr gb b hs a k v ha hv h hk h2 h0
  · rw [if_neg h0]
    exact (rwrite_err w _ a v n _ hv h0 (rask_own w gr gb b hs a n ha h)).mono fun e w' ⟨h1, h2⟩ => ⟨h1, h2 ▸ h, h2 ▸ But.of_below (Below.refl _ _)⟩

set_option maxRecDepth 20000 in
theorem rbytes_own (w : World) (gr gb : Nat) (b : List UInt8) (hs : List (Nat × Nat)) (a : Nat) (n : Int) (ha : a < 4294967296) (hn1 : -9223372036854775808 ≤ n) (hn2 : n ≤ 9223372036854775807) (h : RefM w gr gb b hs) :
    Calls Try.prog 79 #[.pointer (some ⟨gr, 0, none⟩), .int .u32 a, .int .i64 n] w fun e w' => ∃ v', e = .returned v' ∧ OwnB 5 w.heap.size w' v' (Mm.bytesL b a n) ∧ Below w.heap.size w w' := by
  obtain ⟨A, c, cap, c0, -, hrw, hcm, hgr, hne, -⟩ := h.cells
  have hcap := hrw.le
  have HRW := Lib.hid hrw
  have hhi := h.hi
  clear h hrw
  by_cases hin : 0 ≤ n ∧ (a : Int) + n ≤ b.length
  · obtain ⟨h0, h1⟩ := hin
    obtain ⟨k, rfl⟩ := Int.eq_ofNat_of_zero_le h0
    have e2 : Mm.bytesL b a k = Mm.get b a k := by unfold Mm.bytesL; rw [if_pos ⟨h0, h1⟩, Int.toNat_natCast]
    rw [e2]
    clear e2
    have hlen : (Mm.get b a k).length = k := Mm.get_length b a k (by omega)
    have g1 : decide (b.length < k) = false := by simp; omega
    have g2 : decide ((b.length : Int) - (k : Int) < (a : Int)) = false := by simp; omega
    have hbi : (b.length : Int) ≤ 1048576 := by omega
    have hak : (a : Int) ≤ (a : Int) + k := by omega
    have HLK := Lib.hid (show (Mm.get b a k).length ≤ 140737488355328 by rw [hlen]; omega)
    have HB1 := Lib.hid ((Below.refl w.heap.size w).alloc (Nat.le_refl _) (.cells #[] 5))
    by_cases hl0 : cap = a
    · have hk : k = 0 := by omega
      subst hk
      have hba : b.length = a := by omega
      have HG := Lib.hid (show Mm.get b a 0 = [] by simp [Mm.get])
      generalize b.length = len at *
      clear hlen g1 g2 hhi
      subst hl0 hba
      go_enter Try.func79, Try.ntmps79
      go_upto_region 3 with fail
      go_wp2_with (at_builtin; refine wpList_appendB rfl _ _ _ _ rfl mbt w.heap.size _ rfl [] (OwnB.built w 5 #[] [] rfl (Nat.zero_le _) (Nat.le_refl _)) _ rfl [] (src_of_rd mbt (.inl ⟨_, _, rfl, rfl⟩)) (by simp) (by simp) ?_; intro v3 w3 ho3 hb3 _)
      go_ret
      exact ⟨v3, rfl, by rw [HG.out]; simpa using ho3, HB1.out.trans hb3⟩
    · have HR := Lib.hid (show ∀ W, Below w.heap.size w W → RdB W (.slice (some ⟨gb, a, none⟩) (a + k - a) (cap - a)) (Mm.get b a k) from fun W hb => by
        rw [show a + k - a = k by omega]
        exact (HRW.out.kept hb).part a k (cap - a) (by omega) (by omega) (by omega))
      clear hhi
      generalize b.length = len at *
      clear hlen
      go_enter Try.func79, Try.ntmps79
      go_upto_region 3 with fail
      go_wp2_with (at_builtin; refine wpList_appendB rfl _ _ _ _ rfl mbt w.heap.size _ rfl [] (OwnB.built w 5 #[] [] rfl (Nat.zero_le _) (Nat.le_refl _)) _ rfl (Mm.get b a k) (src_of_rd mbt (HR.out _ HB1.out)) (by simpa using HLK.out) (by simp) ?_; intro v3 w3 ho3 hb3 _)
      go_ret
      exact ⟨v3, rfl, by simpa using ho3, HB1.out.trans hb3⟩
  · have e2 : Mm.bytesL b a n = [] := by unfold Mm.bytesL; rw [if_neg hin]
    rw [e2]
    clear e2
    have hbi : (b.length : Int) ≤ 1048576 := by omega
    by_cases h0 : n < 0
    · generalize b.length = len at *
      go_enter Try.func79, Try.ntmps79
      go_wp2
      go_ret
      exact ⟨_, rfl, OwnB.nil _ _ _, Below.refl _ _⟩
    · by_cases h1 : (b.length : Int) < n
      · generalize b.length = len at *
        go_enter Try.func79, Try.ntmps79
        go_wp2
        go_ret
        exact ⟨_, rfl, OwnB.nil _ _ _, Below.refl _ _⟩
      · have h2 : (b.length : Int) - n < (a : Int) := by omega
        have hai : (a : Int) < 4294967296 := by omega
        generalize b.length = len at *
        go_enter Try.func79, Try.ntmps79
        go_wp2
        go_ret
        exact ⟨_, rfl, OwnB.nil _ _ _, Below.refl _ _⟩
end Go.Proofs.Ytijekhdndegdaaa
