/- The walk of the law MemoryBack. -/
import Derived.Test.YtijekhdndegdaaaMmHoles
import Derived.Test.YtijekhdndegdaaaMmApart
namespace Go.Proofs.Ytijekhdndegdaaa
open Go.RowKit Kit
set_option linter.unusedVariables false
set_option linter.unusedSimpArgs false

theorem bytesStr (W : World) (gm gb n : Nat) (B : List UInt8) (hs : List (Nat × Nat)) (h : OwnM W gm gb B hs) (hB : B.length = n) :
    Calls Try.prog 23 #[.pointer (some ⟨gm, 0, none⟩), .int .u32 0, .int .i64 n] W fun e w' => ∃ v', e = .returned v' ∧ (convert 34 9 v').run Try.prog w' = .ok (.string ⟨B.toArray⟩) w' ∧ Below W.heap.size W w' := by
  have := bytes_own W gm gb B hs 0 n (by decide) h
  rw [Mm.bytesL_all B n hB] at this
  refine this.mono ?_
  rintro e w' ⟨v', rfl, ho, hb⟩
  exact ⟨v', rfl, run_string_of mbt Try.underlying9 ho.rd, hb⟩

/-- What is told of a place that is not written. -/
theorem Mm.back_far {b : List UInt8} {hs : List (Nat × Nat)} {a k o v : Nat} (hk : k = 1 ∨ k = 2 ∨ k = 4) (h0 : Mm.ask b.length hs a k = 0) (hak : a + k ≤ b.length) (ho : o < b.length) (far : o < a ∨ a + k ≤ o) :
    Mm.readV (Mm.writeB b hs a k v) hs o 1 = Mm.readV b hs o 1 := by
  unfold Mm.readV
  rw [Mm.writeB_length]
  by_cases h1 : Mm.ask b.length hs o 1 = 0
  · rw [if_pos h1, if_pos h1]
    have hl := Mm.writeB_length b hs a k v
    rw [show (1 : Int).toNat = 1 from rfl, Mm.get_one _ _ (by rw [hl]; exact ho), Mm.get_one _ _ ho]
    unfold Mm.writeB
    rw [if_pos h0, Int.toNat_natCast, Mm.getD_put_far _ _ _ _ (by rw [Mm.bytesOf_length]; exact hak) (by rw [Mm.bytesOf_length]; exact far)]
  · rw [if_neg h1, if_neg h1]
theorem Mm.back_same {b : List UInt8} {hs : List (Nat × Nat)} {a k v : Nat} (h0 : Mm.ask b.length hs a k = 0) (hak : a + k ≤ b.length) :
    Mm.readV (Mm.writeB b hs a k v) hs a k = v % 256 ^ k := by
  unfold Mm.readV
  rw [Mm.writeB_length, if_pos h0]
  unfold Mm.writeB
  rw [if_pos h0]
  have := Mm.get_put b a (Mm.bytesOf v k) (by rw [Mm.bytesOf_length]; exact hak)
  rw [Mm.bytesOf_length] at this
  rw [Int.toNat_natCast, this, Mm.val_bytesOf]

theorem mnew_bad (w : World) (n : Nat) (A : Option Addr) (c : Nat) (hs : List (Nat × Nat)) (h : Rd w 2 (.slice A hs.length c) hs.length (Mm.hc hs)) (hsm : hs.length ≤ maxLen)
    (small : ∀ j, j < hs.length → (hs.getD j (0, 0)).1 < 4294967296 ∧ (hs.getD j (0, 0)).2 < 4294967296) (hno : Mm.newOk n hs = false) :
    Calls Try.prog 19 #[.int .i64 n, .slice A hs.length c] w fun e w' => e = .returned (.tuple #[.pointer none, .int .i64 1]) ∧ Below w.heap.size w w' := new_arg w n A c hs h hsm small hno

set_option maxRecDepth 20000 in
set_option maxHeartbeats 2000000 in
theorem core_memoryBack (s : Int) (A : Option Addr) (c : Nat) (hs : List (Nat × Nat)) (a : Nat) (k : Int) (v o : Nat) (w : World) (hs1 : -9223372036854775808 ≤ s) (hs2 : s ≤ 9223372036854775807)
    (h : Rd w 2 (.slice A hs.length c) hs.length (Mm.hc hs)) (hsm : hs.length ≤ maxLen) (small : ∀ j, j < hs.length → (hs.getD j (0, 0)).1 < 4294967296 ∧ (hs.getD j (0, 0)).2 < 4294967296)
    (ha : a < 4294967296) (hv : v < 4294967296) (ho : o < 4294967296) :
    Calls Try.prog 3 #[.int .i64 s, .slice A hs.length c, .int .u32 a, .int .i64 k, .int .u32 v, .int .u32 o] w fun e w' => e = .returned (.bool true) ∧ Below w.heap.size w w' := by
  have hsm' := hsm
  unfold maxLen at hsm
  by_cases h10 : 10 < hs.length
  · clear h small
    generalize hs.length = n at *
    go_enter Try.func3, Try.ntmps3
    go_wp2_with (go_at_call 18; refine (mknows_any _).mono ?_; rintro e w' ⟨rfl, hb⟩)
    go_ret
    exact ⟨rfl, hb⟩
  have HH := Lib.hid (fun W (hb : Below w.heap.size w W) => holes_any W A c hs (h.kept hb) (by omega))
  have HSM := Lib.hid small
  have H10 := Lib.hid (show hs.length ≤ 10 by omega)
  have t1 := Int.tmod_lt_of_pos s (show (0 : Int) < 500 by omega)
  have t2 : -500 < s.tmod 500 := by have := Int.lt_tmod_of_pos s (show (0 : Int) < 500 by omega); omega
  clear h small
  go_enter Try.func3, Try.ntmps3
  go_wp2_with (go_at_call 18; refine (mknows_any _).mono ?_; rintro e w1 ⟨rfl, hb1⟩)
  obtain ⟨N, hN, n4, n2, n0⟩ : ∃ N : Nat, 4 * (1 + s.tmod 500 % 500) = (N : Int) ∧ 4 ≤ N ∧ N ≤ 2000 ∧ N % 4 = 0 := ⟨(4 * (1 + s.tmod 500 % 500)).toNat, by omega, by omega, by omega, by omega⟩
  rw [hN]
  clear hN t1 t2 hs1 hs2
  have HB1 := Lib.hid hb1
  refine (HH.out _ hb1).mono ?_
  rintro e w2 ⟨v2, rfl, hown, hb2⟩
  have HB2 := Lib.hid (HB1.out.trans (hb2.mono HB1.out.size))
  have hrd := Rd.of_own hown
  obtain ⟨A2, c2, rfl⟩ := hrd.form
  clear hown hb1 hb2
  cases hok : Mm.newOk N hs
  · have HN := Lib.hid (mnew_bad w2 N A2 c2 hs hrd hsm' HSM.out hok)
    clear hok hrd
    go_wp2_with (go_at_call 21; refine (mnum_any _ _).mono ?_; rintro e w' ⟨rfl, rfl⟩)
    refine HN.out.mono ?_
    rintro e w3 ⟨rfl, hb3⟩
    go_wp2_with (go_at_call 21; refine (mnum_any _ _).mono ?_; rintro e w' ⟨rfl, rfl⟩)
    go_ret
    exact ⟨rfl, HB2.out.trans (hb3.mono HB2.out.size)⟩
  have HN := Lib.hid (new_ok w2 N A2 c2 hs hrd HSM.out hok)
  clear hok hrd
  go_wp2_with (go_at_call 21; refine (mnum_any _ _).mono ?_; rintro e w' ⟨rfl, rfl⟩)
  refine HN.out.mono ?_
  rintro e w3 ⟨v3, rfl, gm, gb, rfl, hm, hgm, hgb, hb3, -⟩
  have HB3 := Lib.hid (HB2.out.trans (hb3.mono HB2.out.size))
  have HGB := Lib.hid (Nat.le_trans HB2.out.size hgb)
  have HM3 := Lib.hid hm
  have zl : (List.replicate N (0 : UInt8)).length = N := by simp
  have HA := Lib.hid (show a % (N + 8) < 4294967296 from Nat.lt_of_lt_of_le (Nat.mod_lt _ (by omega)) (by omega))
  have HO := Lib.hid (show o % N < N from Nat.mod_lt _ (by omega))
  clear hm hgm hgb hb3 HN
  generalize List.replicate N (0 : UInt8) = Z at *
  go_wp2_with (go_at_call 21; refine (mnum_any _ _).mono ?_; rintro e w' ⟨rfl, rfl⟩)
  obtain ⟨aa, haa, haa1⟩ : ∃ aa : Nat, (a : Int) % ((N : Int) + 8) = (aa : Int) ∧ aa < 4294967296 := ⟨a % (N + 8), by rw [Int.natCast_emod, Int.natCast_add]; rfl, HA.out⟩
  obtain ⟨oo, hoo, hoo1⟩ : ∃ oo : Nat, (o : Int) % (N : Int) = (oo : Int) ∧ oo < N := ⟨o % N, by rw [Int.natCast_emod], HO.out⟩
  rw [haa, hoo]
  clear haa hoo HA HO
  refine (read_own w3 gm gb Z hs oo 1 (by omega) HM3.out).mono ?_
  rintro e w4 ⟨rfl, hb4⟩
  have HM4 := Lib.hid (HM3.out.kept hb4)
  have HB4 := Lib.hid (HB3.out.trans (hb4.mono HB3.out.size))
  clear hb4
  generalize hX0 : Mm.readV Z hs oo 1 = X0 at *
  have HX0 := Lib.hid hX0
  clear hX0
  generalize Mm.ask Z.length hs oo 1 = E0 at *
  go_wp2_with (go_at_call 21; refine (mnum_any _ _).mono ?_; rintro e w' ⟨rfl, rfl⟩)
  refine (bytesStr w4 gm gb N Z hs HM4.out zl).mono ?_
  rintro e w5 ⟨v5, rfl, hcv, hb5⟩
  have HM5 := Lib.hid (HM4.out.kept hb5)
  have HB5 := Lib.hid (HB4.out.trans (hb5.mono HB4.out.size))
  clear hb5
  go_wp2_with (go_at_call 21; refine (mnum_any _ _).mono ?_; rintro e w' ⟨rfl, rfl⟩)
  clear hcv
  refine (write_own w5 gm gb Z hs aa v k haa1 hv HM5.out).mono ?_
  rintro e w6 ⟨rfl, hm6, hbut6⟩
  have HM6 := Lib.hid hm6
  have HB6 := Lib.hid (HB5.out.trans (hbut6.below HGB.out (by have := HB5.out.size; omega)))
  clear hm6 hbut6
  by_cases hE : Mm.ask Z.length hs aa k = 0
  · obtain ⟨kk, rfl, hkk, hak, -, -⟩ := Mm.ask_ok hE
    have hfar := Lib.hid (fun far => Mm.back_far (v := v) (o := oo) hkk hE hak (by omega) far)
    have hsame := Lib.hid (Mm.back_same (v := v) hE hak)
    have hl1 := Mm.writeB_length Z hs aa kk v
    rw [zl] at hl1
    rw [zl] at hak
    have haki : (aa : Int) + kk ≤ N := by omega
    rw [hE]
    obtain ⟨T, hT⟩ : ∃ T, T = v % 256 ^ kk := ⟨_, rfl⟩
    have R7 := Lib.hid (fun W (h : OwnM W gm gb (Mm.writeB Z hs aa kk v) hs) => by
      have := read_own W gm gb _ hs aa kk haa1 h
      rw [Mm.writeB_length, hE, hsame.out, ← hT] at this
      exact this)
    have R8 := Lib.hid (fun W (h : OwnM W gm gb (Mm.writeB Z hs aa kk v) hs) => read_own W gm gb _ hs oo 1 (by omega) h)
    generalize hX1 : Mm.readV (Mm.writeB Z hs aa kk v) hs oo 1 = X1 at *
    have hfar' := Lib.hid (show (oo < aa ∨ aa + kk ≤ oo) → X1 = X0 from fun far => by rw [← HX0.out]; exact hfar.out far)
    clear hX1 hsame hfar hE
    generalize Mm.ask (Mm.writeB Z hs aa kk v).length hs oo 1 = E1 at *
    generalize Mm.writeB Z hs aa kk v = B1 at *
    go_wp2_with (go_at_call 21; refine (mnum_any _ _).mono ?_; rintro e w' ⟨rfl, rfl⟩)
    refine (R7.out w6 HM6.out).mono ?_
    rintro e w7 ⟨rfl, hb7⟩
    have HM7 := Lib.hid (HM6.out.kept hb7)
    have HB7 := Lib.hid (HB6.out.trans (hb7.mono HB6.out.size))
    clear hb7
    go_wp2_with (go_at_call 21; refine (mnum_any _ _).mono ?_; rintro e w' ⟨rfl, rfl⟩)
    refine (R8.out w7 HM7.out).mono ?_
    rintro e w8 ⟨rfl, hb8⟩
    have HB8 := Lib.hid (HB7.out.trans (hb8.mono HB7.out.size))
    clear hb8
    have HT := Lib.hid hT
    clear hT
    have hfb : ((X1 : Int) == (X0 : Int)) = true ∨ ((oo < aa) = False ∧ ((aa : Int) + kk ≤ oo) = False) := by
      by_cases far : oo < aa ∨ aa + kk ≤ oo
      · exact .inl (by rw [hfar'.out far]; simp)
      · exact .inr ⟨by simp; omega, by simp; omega⟩
    rcases hkk with rfl | rfl | rfl
    · have hT1 : ((T : Int) == (v : Int) % 256) = true := by have := HT.out; rw [this]; simp
      rcases hfb with hx | ⟨hx, hy⟩
      · by_cases f1 : oo < aa
        · go_wp2_with (go_at_call 21; refine (mnum_any _ _).mono ?_; rintro e w' ⟨rfl, rfl⟩)
          go_ret
          exact ⟨rfl, HB8.out⟩
        · by_cases f2 : (aa : Int) + 1 ≤ oo
          · go_wp2_with (go_at_call 21; refine (mnum_any _ _).mono ?_; rintro e w' ⟨rfl, rfl⟩)
            go_ret
            exact ⟨rfl, HB8.out⟩
          · go_wp2_with (go_at_call 21; refine (mnum_any _ _).mono ?_; rintro e w' ⟨rfl, rfl⟩)
            go_ret
            exact ⟨rfl, HB8.out⟩
      · have f1 : ¬ oo < aa := by simpa using hx
        have f2 : ¬ (aa : Int) + 1 ≤ oo := by simpa using hy
        clear hx hy
        go_wp2_with (go_at_call 21; refine (mnum_any _ _).mono ?_; rintro e w' ⟨rfl, rfl⟩)
        go_ret
        exact ⟨rfl, HB8.out⟩
    · have hT1 : ((T : Int) == (v : Int) % 65536) = true := by have := HT.out; rw [this]; simp
      rcases hfb with hx | ⟨hx, hy⟩
      · by_cases f1 : oo < aa
        · go_wp2_with (go_at_call 21; refine (mnum_any _ _).mono ?_; rintro e w' ⟨rfl, rfl⟩)
          go_ret
          exact ⟨rfl, HB8.out⟩
        · by_cases f2 : (aa : Int) + 2 ≤ oo
          · go_wp2_with (go_at_call 21; refine (mnum_any _ _).mono ?_; rintro e w' ⟨rfl, rfl⟩)
            go_ret
            exact ⟨rfl, HB8.out⟩
          · go_wp2_with (go_at_call 21; refine (mnum_any _ _).mono ?_; rintro e w' ⟨rfl, rfl⟩)
            go_ret
            exact ⟨rfl, HB8.out⟩
      · have f1 : ¬ oo < aa := by simpa using hx
        have f2 : ¬ (aa : Int) + 2 ≤ oo := by simpa using hy
        clear hx hy
        go_wp2_with (go_at_call 21; refine (mnum_any _ _).mono ?_; rintro e w' ⟨rfl, rfl⟩)
        go_ret
        exact ⟨rfl, HB8.out⟩
    · have hT1 : T = v := by have := HT.out; rw [this]; omega
      subst hT1
      rcases hfb with hx | ⟨hx, hy⟩
      · by_cases f1 : oo < aa
        · go_wp2_with (go_at_call 21; refine (mnum_any _ _).mono ?_; rintro e w' ⟨rfl, rfl⟩)
          go_ret
          exact ⟨rfl, HB8.out⟩
        · by_cases f2 : (aa : Int) + 4 ≤ oo
          · go_wp2_with (go_at_call 21; refine (mnum_any _ _).mono ?_; rintro e w' ⟨rfl, rfl⟩)
            go_ret
            exact ⟨rfl, HB8.out⟩
          · go_wp2_with (go_at_call 21; refine (mnum_any _ _).mono ?_; rintro e w' ⟨rfl, rfl⟩)
            go_ret
            exact ⟨rfl, HB8.out⟩
      · have f1 : ¬ oo < aa := by simpa using hx
        have f2 : ¬ (aa : Int) + 4 ≤ oo := by simpa using hy
        clear hx hy
        go_wp2_with (go_at_call 21; refine (mnum_any _ _).mono ?_; rintro e w' ⟨rfl, rfl⟩)
        go_ret
        exact ⟨rfl, HB8.out⟩
  · have hW : Mm.writeB Z hs aa k v = Z := by unfold Mm.writeB; rw [if_neg hE]
    rw [hW] at HM6
    clear hW
    have gE : (Mm.ask Z.length hs aa k != 0) = true := by simpa using hE
    generalize Mm.ask Z.length hs aa k = E at *
    clear hE
    go_wp2_with (go_at_call 21; refine (mnum_any _ _).mono ?_; rintro e w' ⟨rfl, rfl⟩)
    refine (bytesStr w6 gm gb N Z hs HM6.out zl).mono ?_
    rintro e w7 ⟨v7, rfl, hcv, hb7⟩
    go_wp2_with (go_at_call 21; refine (mnum_any _ _).mono ?_; rintro e w' ⟨rfl, rfl⟩)
    go_ret
    exact ⟨rfl, HB6.out.trans (hb7.mono HB6.out.size)⟩
end Go.Proofs.Ytijekhdndegdaaa
