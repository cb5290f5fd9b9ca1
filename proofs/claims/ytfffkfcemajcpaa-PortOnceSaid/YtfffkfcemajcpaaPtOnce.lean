/- The walk of the law PortOnce. -/
import Derived.Test.YtfffkfcemajcpaaPtLaws
import Derived.Deep.RegionWith
import Derived.Laws.MakeOwn
namespace Go.Proofs.Ytfffkfcemajcpaa
open Go.RowKit Kit
set_option linter.unusedVariables false
set_option linter.unusedSimpArgs false

theorem pzeros_make (n : Nat) (hn : n ≤ 1048576) (W : World) : (Instr.makeSlice 22 (.int .i64 (n : Int)) (.int .i64 (n : Int))).run Try.prog W = .ok (.slice (some ⟨W.heap.size, 0, none⟩) n n) (W.alloc (.cells (bv (List.replicate n 0)).toArray 5)) := by
  obtain ⟨i, hi, hz, hs1, hb1⟩ := pbt.info
  have hb : (i.bytes : Int) * (n : Int) ≤ 281474976710656 := by rw [hb1]; omega
  have hr := run_make (P := Try.prog) W 22 5 i _ pbt.slice hi hz .i64 .i64 n n (by omega) (by omega) hb (by omega)
  rw [hr]
  simp only [Int.toNat_natCast]
  congr 3
  apply Array.ext'
  apply List.ext_getElem
  · simp [madeCells, hs1, bv, Value.cells]
  · intro j h1 h2
    simp [madeCells, bv, Value.cells, Nat.mod_one]

theorem pmin_lo (k : Nat) (h : k ≤ 65536) (ts : Array TypeId) (t : TypeId) (W : World) : (Builtin.min_ ts t #[.int .i64 65536, .int .i64 (k : Int)]).run Try.prog W = .ok (.int .i64 (k : Int)) W := by
  have e : (if (k : Int) < 65536 then (k : Int) else 65536) = k := by
    by_cases h1 : (k : Int) < 65536
    · rw [if_pos h1]
    · rw [if_neg h1]; omega
  rw [run_min_int2, e]
theorem pmin_hi (k T : Nat) (h : 65536 ≤ k) (hT : T = 65536) (ts : Array TypeId) (t : TypeId) (W : World) : (Builtin.min_ ts t #[.int .i64 65536, .int .i64 (k : Int)]).run Try.prog W = .ok (.int .i64 (T : Int)) W := by
  have e : (if (k : Int) < 65536 then (k : Int) else 65536) = (T : Int) := by
    rw [if_neg (by omega)]; omega
  rw [run_min_int2, e]
/-- A port that is still one, whatever was done to it, seen from where the law began. -/
structure Pt.Is (w0 w : World) (gp gc : Nat) (ahead put : List UInt8) : Prop where
  own : OwnP w w0.heap.size gp gc ahead put false 0
  below : Below w0.heap.size w0 w
theorem Pt.Is.step {w0 w w' : World} {gp gc : Nat} {ahead put ahead' put' : List UInt8} (h : Pt.Is w0 w gp gc ahead put) (ho : OwnP w' w0.heap.size gp gc ahead' put' false 0) (hs : PStep w w' gp gc) : Pt.Is w0 w' gp gc ahead' put' :=
  ⟨ho, h.below.trans ((hs.below h.own).mono (Nat.le_refl _))⟩
theorem Pt.Is.kept {w0 w w' : World} {gp gc : Nat} {ahead put : List UInt8} (h : Pt.Is w0 w gp gc ahead put) (hb : Below w.heap.size w w') : Pt.Is w0 w' gp gc ahead put :=
  ⟨h.own.kept hb, h.below.trans (hb.mono h.below.size)⟩

set_option maxRecDepth 20000 in
set_option maxHeartbeats 2000000 in
theorem core_portOnce (v : Value) (l : List UInt8) (more : Int) (w : World) (hl : RdB w v l) (hlm : l.length ≤ maxLen) (hm1 : -9223372036854775808 ≤ more) (hm2 : more ≤ 9223372036854775807) :
    Calls Try.prog 3 #[v, .int .i64 more] w fun e w' => e = .returned (.bool true) ∧ Below w.heap.size w w' := by
  obtain ⟨A, c, rfl⟩ := hl.length
  unfold maxLen at hlm
  by_cases h1000 : 1000 < l.length
  · clear hl
    generalize l.length = n at *
    go_enter Try.func3, Try.ntmps3
    go_wp2_with (go_at_call 10; refine (pknows_any _).mono ?_; rintro e w' ⟨rfl, hb⟩)
    go_ret
    exact ⟨rfl, hb⟩
  have hli : (l.length : Int) ≤ 1000 := by omega
  have HL := Lib.hid hl
  have HC := Lib.hid (show ∀ j, j < l.length → ∀ W, Below w.heap.size w W → ∃ g off, A = some ⟨g, off, none⟩ ∧ W.cell? ⟨g, off + j, none⟩ = some (.int .u8 (l.getD j 0).toNat) from fun j hj W hb => by
    rcases hl.below hb with ⟨_, _, _, rfl⟩ | ⟨g, off, cap, e, _, _, _, hc⟩
    · simp at hj
    · injection e with e
      exact ⟨g, off, e, hc j hj⟩)
  have HN := Lib.hid (fun W (hb : Below w.heap.size w W) => new_port W _ l (hl.below hb) (by omega))
  clear hl
  generalize hn : l.length = n at *
  have HLN := Lib.hid hn
  clear hn
  go_enter Try.func3, Try.ntmps3
  go_wp2_with (go_at_call 10; refine (pknows_any _).mono ?_; rintro e w1 ⟨rfl, hb1⟩)
  have HB1 := Lib.hid hb1
  refine (HN.out _ hb1).mono ?_
  clear hb1
  rintro e w2 ⟨gp, gc, rfl, hp, hb2⟩
  have HI := Lib.hid (show Pt.Is w1 w2 gp gc l [] from ⟨hp, hb2⟩)
  clear hp hb2
  go_wp2_with (go_at_call 12; refine (pnum_any _ _).mono ?_; rintro e w' ⟨rfl, rfl⟩)
  go_loopw [7] (fun i wr => ∃ j : Nat, j ≤ n ∧ i = .int .i64 j ∧ Pt.Is w1 wr gp gc (l.drop j) (l.take j)) (fun i _ => n - (intOf i).toNat)
  case atStart => exact ⟨0, Nat.zero_le _, rfl, HI.out⟩
  case round =>
    obtain ⟨j, hj, rfl, hi⟩ := hrel
    have HJ := Lib.hid hi
    clear hi
    by_cases hlt : j < n
    · obtain ⟨g, off, hA, c0⟩ := HC.out j hlt wr (HB1.out.trans (HJ.out.below.mono HB1.out.size))
      subst hA
      have hx := (l.getD j 0).toNat_lt
      have HD := Lib.hid (show l.drop j = l.getD j 0 :: l.drop (j + 1) from by
        rw [List.drop_eq_getElem_cons (by have := HLN.out; omega)]
        simp [List.getD, List.getElem?_eq_getElem (show j < l.length by have := HLN.out; omega)])
      have HT := Lib.hid (show l.take (j + 1) = l.take j ++ [l.getD j 0] from by
        rw [List.take_succ_eq_append_getElem (by have := HLN.out; omega)]
        simp [List.getD, List.getElem?_eq_getElem (show j < l.length by have := HLN.out; omega)])
      have HTL := Lib.hid (show (l.take j).length = j by rw [List.length_take]; have := HLN.out; omega)
      have HDL := Lib.hid (show ((l.drop (j + 1)).length : Int) = (n : Int) - 1 - j by rw [List.length_drop]; have := HLN.out; omega)
      have HC2 := Lib.hid (fun W (hb : Below w1.heap.size w1 W) => by
        obtain ⟨g', off', hA, c0⟩ := HC.out j hlt W (HB1.out.trans (hb.mono HB1.out.size))
        simp only [Option.some.injEq, Addr.mk.injEq] at hA
        obtain ⟨rfl, rfl, -⟩ := hA
        exact (c0 : W.cell? ⟨g, off + j, none⟩ = some (.int .u8 (l.getD j 0).toNat)))
      clear c0
      generalize hxx : l.getD j 0 = x at *
      clear hxx
      have hxi : (x.toNat : Int) < 256 := by omega
      go_wp2_with fail
      have C := in_port wr _ gp gc _ _ _ _ HJ.out.own
      rw [HD.out, show Pt.inV (x :: l.drop (j + 1)) = x.toNat from rfl, List.tail_cons] at C
      refine C.mono ?_
      rintro e w3 ⟨rfl, hp3, hs3⟩
      clear C
      have HJ3 := Lib.hid (HJ.out.step hp3 hs3)
      clear hp3 hs3
      have C := left_own w3 _ gp gc _ _ _ _ HJ3.out.own
      rw [HDL.out] at C
      have CL := Lib.hid C
      have c0 := HC2.out w3 HJ3.out.below
      clear C
      go_wp2_with (go_at_call 14; refine CL.out.mono ?_; rintro e w' ⟨rfl, rfl⟩)
      obtain ⟨u, hu⟩ : ∃ u : Nat, (x.toNat : Int) + 512 = u := ⟨x.toNat + 512, by omega⟩
      rw [hu]
      refine (out_port w3 _ gp gc _ _ _ _ u (by omega) HJ3.out.own).mono ?_
      rintro e w4 ⟨rfl, hp4, hs4⟩
      have hu2 : UInt8.ofNat u = x := by
        have : u = x.toNat + 512 := by omega
        rw [this]
        apply UInt8.toNat_inj.1
        rw [UInt8.toNat_ofNat']
        omega
      have HPO := Lib.hid (show Pt.out (l.take j) u = l.take (j + 1) by
        rw [HT.out, ← hu2]
        unfold Pt.out
        rw [if_pos (by rw [HTL.out]; omega)])
      rw [HPO.out] at hp4
      have HJ4 := Lib.hid (HJ3.out.step hp4 hs4)
      clear hp4 hs4 hu hu2 c0
      go_wp2_with fail
      go_roundw
      case rel => exact ⟨j + 1, by omega, by go_num, HJ4.out⟩
      case measure => simp [intOf]; omega
    · obtain rfl : j = n := by omega
      have e1 : l.drop j = [] := List.drop_of_length_le (by have := HLN.out; omega)
      have e2 : l.take j = l := List.take_of_length_le (by have := HLN.out; omega)
      rw [e1, e2] at HJ
      clear e1 e2
      have HCI := Lib.hid (fun W (hb : Below w1.heap.size w1 W) => run_string_of pbt Try.underlying9 (HL.out.below (HB1.out.trans (hb.mono HB1.out.size))))
      go_upto_region 13 with fail
      have HX := Lib.hid (show ∀ W, Pt.Is w1 W gp gc [] l → Calls Try.prog 16 #[.pointer (some ⟨gp, 0, none⟩)] W fun e w' => ∃ v', e = .returned v' ∧ (convert 22 9 v').run Try.prog w' = .ok (.string ⟨l.toArray⟩) w' ∧ Pt.Is w1 w' gp gc [] l from fun W h =>
        (out_put W _ gp gc _ _ _ _ h.own).mono (fun e w' ⟨v', h1, h2, h3⟩ => ⟨v', h1, run_string_of pbt Try.underlying9 h2.rd, h.kept h3⟩))
      have HI0 := Lib.hid (fun W (h : Pt.Is w1 W gp gc [] l) => by
        obtain ⟨v, hb, _⟩ := h.own.obj
        obtain ⟨cap, s, r, hc⟩ := h.own.ch
        exact in_none W gp gc cap s r (hb.cell 0) hc)
      have HKD := Lib.hid (fun W (h : Pt.Is w1 W gp gc [] l) => (h.kept (Below.refl W.heap.size W).drew : Pt.Is w1 W.drew gp gc [] l))
      go_cut [67] (fun s67 wx => s67 = .bool false ∧ Pt.Is w1 wx gp gc [] l)
      case first =>
        have hci0 := HCI.out _ HJ.out.below.drew
        go_region_with (first | (go_at_call 16; refine (HX.out _ (by first | exact HKD.out _ HJ.out | exact HJ.out)).mono ?_; rintro e w5 ⟨v5, rfl, hcv5, hi5⟩; have hci5 := HCI.out _ hi5.below) | (go_at_call 13; refine (HI0.out _ (by first | exact hi5 | exact HKD.out _ hi5)).mono ?_; rintro e w' ⟨rfl, rfl⟩))
        all_goals
          go_wp2_with fail
          go_meet
          exact ⟨rfl, hi5⟩
      case rest =>
        obtain ⟨rfl, hic⟩ := hcut
        have HIC := Lib.hid hic
        have t1 := Int.tmod_lt_of_pos more (show (0 : Int) < 3 by omega)
        have t2 : -3 < more.tmod 3 := by have := Int.lt_tmod_of_pos more (show (0 : Int) < 3 by omega); omega
        have hmk : ∀ N : Nat, N ≤ 1048576 → ∀ W, (Instr.makeSlice 22 (.int .i64 (N : Int)) (.int .i64 (N : Int))).run Try.prog W = .ok (.slice (some ⟨W.heap.size, 0, none⟩) N N) (W.alloc (.cells (bv (List.replicate N 0)).toArray 5)) := pzeros_make
        have HMK := Lib.hid hmk
        clear hic hmk hm1 hm2
        go_upto_region 16 with fail
        obtain ⟨N, hN, hN1, hN2⟩ : ∃ N : Nat, more.tmod 3 % 3 - 1 = (N : Int) - 65536 ∧ 65535 ≤ N ∧ N ≤ 65537 := ⟨(more.tmod 3 % 3 - 1 + 65536).toNat, by omega, by omega, by omega⟩
        generalize more.tmod 3 % 3 - 1 = M at *
        have hS : (65536 : Int) + M = N := by omega
        have HM := Lib.hid hN
        have hmk := HMK.out N (by omega)
        have HRZ := Lib.hid (fun W => (OwnB.built W 5 (bv (List.replicate N 0)).toArray (List.replicate N 0) (by simp) (by simp; unfold maxLen; omega) (Nat.le_refl _)).rd)
        have HZL := Lib.hid (show (List.replicate N (0 : UInt8)).length = N by simp)
        rw [HZL.out] at HRZ
        clear hN
        generalize hzz : List.replicate N (0 : UInt8) = Z at *
        clear hzz
        generalize hz2 : (bv Z).toArray = ZZ at *
        clear hz2
        have HN1 := Lib.hid hN1
        have HN2 := Lib.hid hN2
        have hNb : (N : Int) ≤ 70000 := by omega
        by_cases h6 : N ≤ 65536
        · have hNW := Lib.hid (new_port _ _ Z (HRZ.out wc) (by rw [HZL.out]; exact h6))
          have b1 : decide (M ≤ 0) = true := by have := HM.out; simp; omega
          have b2 : min (65536 : Int) (N : Int) = N := by omega
          have H6 := Lib.hid h6
          clear h6 hN1 hN2
          go_wp2_with fail
          refine hNW.out.mono ?_
          rintro e w5 ⟨gp2, gc2, rfl, hx5, hb5⟩
          clear hx5
          have HI5 := Lib.hid (HIC.out.kept (((Below.refl wc.heap.size wc).alloc (Nat.le_refl _) (.cells ZZ 5)).trans (hb5.mono (by simp))))
          clear hb5
          go_wp2_with fail
          go_loopw [11] (fun i wr => ∃ (k : Nat) (put : List UInt8), i = .int .i64 k ∧ j ≤ k ∧ k ≤ N ∧ put.length = min k 65536 ∧ Pt.Is w1 wr gp gc [] put) (fun i _ => N - (intOf i).toNat)
          case atStart => exact ⟨j, l, rfl, Nat.le_refl _, by have := HN1.out; omega, by have := HLN.out; omega, HI5.out⟩
          case round =>
            obtain ⟨k, put, rfl, hk1, hk2, hpl, hi⟩ := hrel
            have HII := Lib.hid hi
            have HPL := Lib.hid hpl
            clear hi hpl
            by_cases hlt : k < N
            · have hki : (k : Int) < 4294967296 := by have := HN2.out; omega
              have hki2 : (k : Int) < (N : Int) := by omega
              go_wp2_with fail
              refine (out_port wr _ gp gc _ _ _ _ k (by omega) HII.out.own).mono ?_
              rintro e w6 ⟨rfl, hp6, hs6⟩
              have HI6 := Lib.hid (HII.out.step hp6 hs6)
              have HPL6 := Lib.hid (show (Pt.out put k).length = min (k + 1) 65536 by
                have := HPL.out
                unfold Pt.out
                split
                · simp; omega
                · omega)
              clear hp6 hs6
              go_wp2_with fail
              go_roundw
              case rel => exact ⟨k + 1, _, by go_num, by omega, by omega, HPL6.out, HI6.out⟩
              case measure => simp [intOf]; omega
            · obtain rfl : k = N := by omega
              have HX2 := Lib.hid (show Calls Try.prog 16 #[.pointer (some ⟨gp, 0, none⟩)] wr fun e w' => ∃ a c, e = .returned (.slice a (min k 65536) c) ∧ Pt.Is w1 w' gp gc [] put from
                (out_put wr _ gp gc _ _ _ _ HII.out.own).mono (fun e w' ⟨v', h1, h2, h3⟩ => by
                  obtain ⟨a, c, rfl⟩ := h2.len HPL.out
                  exact ⟨a, c, h1, HII.out.kept h3⟩))
              have hmn : min k 65536 = k := by have := H6.out; omega
              rw [hmn] at HX2
              clear hlt hk1 hk2
              go_upto_region 21 with fail
              clear b2
              have hmin := pmin_lo k H6.out
              clear hS
              have hS : (65536 : Int) + M = k := by have := HM.out; omega
              all_goals
                go_wp2_with (first | (go_at_call 12; refine (pnum_any _ _).mono ?_; rintro e w' ⟨rfl, rfl⟩) | (go_at_call 16; refine HX2.out.mono ?_; rintro e w7 ⟨a7, c7, rfl, hi7⟩))
                go_ret
                exact ⟨rfl, HB1.out.trans (hi7.below.mono HB1.out.size)⟩
        · have hNW := Lib.hid (new_many (wc.alloc (.cells ZZ 5)) (some ⟨wc.heap.size, 0, none⟩) N N (by omega) (by unfold maxLen; omega))
          obtain ⟨T, hT⟩ : ∃ T : Nat, T = 65536 := ⟨_, rfl⟩
          have HT := Lib.hid hT
          clear hT
          have b1 : decide (M ≤ 0) = false := by have := HM.out; simp; omega
          have H6 := Lib.hid (show 65536 < N by omega)
          clear h6 hN1 hN2
          go_wp2_with fail
          refine hNW.out.mono ?_
          rintro e w5 ⟨rfl, rfl⟩
          have HI5 := Lib.hid (HIC.out.kept (((Below.refl wc.heap.size wc).alloc (Nat.le_refl _) (.cells ZZ 5))))
          go_wp2_with fail
          go_loopw [11] (fun i wr => ∃ (k : Nat) (put : List UInt8), i = .int .i64 k ∧ j ≤ k ∧ k ≤ N ∧ put.length = min k 65536 ∧ Pt.Is w1 wr gp gc [] put) (fun i _ => N - (intOf i).toNat)
          case atStart => exact ⟨j, l, rfl, Nat.le_refl _, by have := HN1.out; omega, by have := HLN.out; omega, HI5.out⟩
          case round =>
            obtain ⟨k, put, rfl, hk1, hk2, hpl, hi⟩ := hrel
            have HII := Lib.hid hi
            have HPL := Lib.hid hpl
            clear hi hpl
            by_cases hlt : k < N
            · have hki : (k : Int) < 4294967296 := by have := HN2.out; omega
              have hki2 : (k : Int) < (N : Int) := by omega
              go_wp2_with fail
              refine (out_port wr _ gp gc _ _ _ _ k (by omega) HII.out.own).mono ?_
              rintro e w6 ⟨rfl, hp6, hs6⟩
              have HI6 := Lib.hid (HII.out.step hp6 hs6)
              have HPL6 := Lib.hid (show (Pt.out put k).length = min (k + 1) 65536 by
                have := HPL.out
                unfold Pt.out
                split
                · simp; omega
                · omega)
              clear hp6 hs6
              go_wp2_with fail
              go_roundw
              case rel => exact ⟨k + 1, _, by go_num, by omega, by omega, HPL6.out, HI6.out⟩
              case measure => simp [intOf]; omega
            · obtain rfl : k = N := by omega
              have HX2 := Lib.hid (show Calls Try.prog 16 #[.pointer (some ⟨gp, 0, none⟩)] wr fun e w' => ∃ a c, e = .returned (.slice a (min k 65536) c) ∧ Pt.Is w1 w' gp gc [] put from
                (out_put wr _ gp gc _ _ _ _ HII.out.own).mono (fun e w' ⟨v', h1, h2, h3⟩ => by
                  obtain ⟨a, c, rfl⟩ := h2.len HPL.out
                  exact ⟨a, c, h1, HII.out.kept h3⟩))
              have hmn : min k 65536 = T := by have := H6.out; have := HT.out; omega
              rw [hmn] at HX2
              clear hlt hk1 hk2
              go_upto_region 21 with fail
              have hmin := pmin_hi k T (by have := H6.out; omega) HT.out
              clear hS
              have hS : (65536 : Int) + M = k := by have := HM.out; omega
              all_goals
                go_wp2_with (first | (go_at_call 12; refine (pnum_any _ _).mono ?_; rintro e w' ⟨rfl, rfl⟩) | (go_at_call 16; refine HX2.out.mono ?_; rintro e w7 ⟨a7, c7, rfl, hi7⟩))
                go_ret
                exact ⟨rfl, HB1.out.trans (hi7.below.mono HB1.out.size)⟩
end Go.Proofs.Ytfffkfcemajcpaa
