/- The walk of the law PortPlays. -/
import Derived.Test.YtfffkfcemajcpaaPtSame
import Derived.Test.YtfffkfcemajcpaaPtOpen
namespace Go.Proofs.Ytfffkfcemajcpaa
open Go.RowKit Kit
set_option linter.unusedVariables false
set_option linter.unusedSimpArgs false

theorem own_store {e : TypeId} {base g n cap j : Nat} {w : World} {l : List UInt8} (h : OwnB e base w (.slice (some ⟨g, 0, none⟩) n cap) l) (c : UInt8) : OwnB e base (w.setCell ⟨g, j, none⟩ (.int .u8 c.toNat)) (.slice (some ⟨g, 0, none⟩) n cap) (l.set j c) := by
  rcases h.2 with ⟨e1, _⟩ | ⟨g', cap', cur, e1, hb, hh, hnc, hcm, hcs, htake⟩
  · cases e1
  · injection e1 with e1 e2 e3
    injection e1 with e1
    injection e1 with e1
    subst e1
    subst e2
    subst e3
    refine ⟨by simp [bv_length], .inr ⟨g, cap, cur.setIfInBounds j (.int .u8 c.toNat), by simp, hb, Bk.set (t := e) hh j _, by simpa using hnc, hcm, by simpa using hcs, ?_⟩⟩
    rw [Array.toList_setIfInBounds, List.length_set, List.take_set, htake]
    simp [bv]
theorem Duo.cell {w : World} {base gp gc gr : Nat} {a p a' p' : List UInt8} {h h' : Bool} {c c' : Nat} (H : Duo w base gp gc gr a p h c a' p' h' c') (g i : Nat) (u : Value) (hg : g < base) : Duo (w.setCell ⟨g, i, none⟩ u) base gp gc gr a p h c a' p' h' c' :=
  H.other (S := fun k => k = g) ⟨rfl, rfl, rfl, by simp [World.setCell], fun k _ hk => Below.heap_setCell w _ u k hk⟩ (fun k hk _ e => by omega)

/-- The append at the law's head: 'in' is a copy. -/
structure Pt.Copied (w w3 : World) (v3 : Value) (l : List UInt8) : Prop where
  own : OwnB 5 w.heap.size w3 v3 l
  bel : Below w.heap.size w w3
theorem RStep.below {w w' : World} {base gr : Nat} {ahead put : List UInt8} {h : Bool} {code : Nat} (H : RefP w base gr ahead put h code) (hs : RStep w w' gr) : Below base w w' :=
  hs.only.below (by have := rmine.lt H (.inl rfl); omega) (fun k hk => (rmine.lt H hk).1)
theorem plays_few (w : World) (A : Option Addr) (c : Nat) (l : List UInt8) (B : Option Addr) (d : Nat) (acts : List Pt.Act) (h : RdB w (.slice A l.length c) l) (hm : l.length ≤ 140737488351232)
    (ha : Rd w 2 (.slice B acts.length d) acts.length (acts.flatMap Pt.Act.cells)) (hok : ∀ x ∈ acts, x.ok) (hma : acts.length ≤ maxLen) (hno : (2000 < l.length ∧ l.length ≤ 65536) ∨ 100 < acts.length) :
    Calls Try.prog 6 #[.slice A l.length c, .slice B acts.length d] w fun e w' => e = .returned (.bool true) ∧ Below w.heap.size w w' := by
  unfold maxLen at hma
  clear h ha hok
  generalize l.length = n at *
  generalize acts.length = m at *
  have hn : (n : Int) ≤ 140737488351232 := by omega
  have hmm : (m : Int) ≤ 9223372036854775807 := by omega
  rcases hno with ⟨h1, h2⟩ | h1
  · have g1 : (2000 : Int) < n := by omega
    have g2 : (n : Int) ≤ 65536 := by omega
    go_enter Try.func6, Try.ntmps6
    go_wp2_with (go_at_call 10; refine (pknows_any _).mono ?_; rintro e w9 ⟨rfl, hb9⟩)
    go_ret
    exact ⟨rfl, hb9⟩
  · by_cases h3 : 2000 < n
    · by_cases h4 : n ≤ 65536
      all_goals
        have g1 : (2000 : Int) < n := by omega
        have g3 : (100 : Int) < m := by omega
        first | (have g2 : (n : Int) ≤ 65536 := by omega) | (have g2 : ¬ (n : Int) ≤ 65536 := by omega)
        go_enter Try.func6, Try.ntmps6
        go_wp2_with (go_at_call 10; refine (pknows_any _).mono ?_; rintro e w9 ⟨rfl, hb9⟩)
        go_ret
        exact ⟨rfl, hb9⟩
    · have g1 : ¬ (2000 : Int) < n := by omega
      have g3 : (100 : Int) < m := by omega
      go_enter Try.func6, Try.ntmps6
      go_wp2_with (go_at_call 10; refine (pknows_any _).mono ?_; rintro e w9 ⟨rfl, hb9⟩)
      go_ret
      exact ⟨rfl, hb9⟩
set_option maxRecDepth 100000 in
set_option maxHeartbeats 2000000 in
theorem plays_many (w : World) (A : Option Addr) (c : Nat) (l : List UInt8) (B : Option Addr) (d : Nat) (acts : List Pt.Act) (h : RdB w (.slice A l.length c) l) (hm : l.length ≤ 140737488351232)
    (ha : Rd w 2 (.slice B acts.length d) acts.length (acts.flatMap Pt.Act.cells)) (hok : ∀ x ∈ acts, x.ok) (hma : acts.length ≤ maxLen) (hl : 65536 < l.length) (hl2 : ¬ 100 < acts.length) :
    Calls Try.prog 6 #[.slice A l.length c, .slice B acts.length d] w fun e w' => e = .returned (.bool true) ∧ Below w.heap.size w w' := by
  unfold maxLen at hma
  have HOWN := Lib.hid (show OwnB 5 w.heap.size (w.alloc (.cells #[] 5)) (.slice (some ⟨w.heap.size, 0, none⟩) 0 0) [] from by
    have := OwnB.built w 5 #[] [] rfl (Nat.zero_le _) (Nat.le_refl _)
    simpa only [List.length_nil] using this)
  have HSR := Lib.hid (src_of_rd pbt (h.below ((Below.refl w.heap.size w).alloc (Nat.le_refl _) (.cells #[] 5))))
  have HLM := Lib.hid (show ([] : List UInt8).length + l.length ≤ 140737488355328 by simp; omega)
  have HB0 := Lib.hid ((Below.refl w.heap.size w).alloc (Nat.le_refl _) (.cells #[] 5))
  have HRI := Lib.hid (show ∀ W', Below w.heap.size w W' → RdB W' (.slice A l.length c) l from fun W' hb => h.below hb)
  have HL := Lib.hid hl
  generalize hll : l.length = n at *
  have HLN := Lib.hid hll
  have HSR2 := Lib.hid (show Src Try.prog 1 22 (.slice A n c) l.length (bv l) (w.alloc (.cells #[] 5)) from by rw [hll]; exact HSR.out)
  have HLM2 := Lib.hid (show ([] : List UInt8).length + l.length ≤ 140737488355328 by rw [hll]; exact HLM.out)
  clear hll h ha hok HSR HLM
  generalize acts.length = m at *
  have hn : (n : Int) ≤ 140737488351232 := by omega
  have g1 : (2000 : Int) < n := by omega
  have g2 : ¬ (n : Int) ≤ 65536 := by omega
  have g3 : ¬ (100 : Int) < m := by omega
  go_enter Try.func6, Try.ntmps6
  go_wp2_with (at_builtin; refine wpList_appendB rfl _ _ _ _ rfl pbt w.heap.size _ rfl [] HOWN.out _ rfl l HSR2.out HLM2.out (by simp) ?_; intro v3 w3 ho3 hb3 _; rw [List.nil_append] at ho3; have HO3 := Lib.hid ho3; have HB3 := Lib.hid (HB0.out.trans hb3); obtain ⟨a3, c3, rfl⟩ := OwnB.len ho3 HLN.out; clear ho3 hb3)
  have hcv1 := run_string_of pbt Try.underlying9 HO3.out.rd
  have hcv2 := run_string_of pbt Try.underlying9 (HRI.out _ HB3.out)
  go_wp2_with (first | (go_at_call 11; refine (new_many _ _ n _ HL.out (by unfold maxLen; omega)).mono ?_; rintro e w' ⟨rfl, rfl⟩) | (go_at_call 27; refine (rnew_many _ _ n _ HL.out (by unfold maxLen; omega)).mono ?_; rintro e w' ⟨rfl, rfl⟩) | (go_at_call 12; refine (pnum_any _ _).mono ?_; rintro e w' ⟨rfl, rfl⟩))
  clear hcv1 hcv2
  go_loopw [10] (fun i wr => ∃ (j : Nat) (lst : List UInt8), j ≤ n ∧ j ≤ 50 ∧ i = .int .i64 j ∧ lst.length = n ∧ OwnB 5 w.heap.size wr (.slice a3 n c3) lst ∧ Below w.heap.size w wr) (fun i _ => n - (intOf i).toNat)
  case atStart => exact ⟨0, l, Nat.zero_le _, by omega, rfl, HLN.out, HO3.out, HB3.out⟩
  case round =>
    obtain ⟨j, lst, hj, h50, rfl, hln, hown, hbr⟩ := hrel
    have HBR := Lib.hid hbr
    have HL2 := Lib.hid hln
    have HOW := Lib.hid hown
    clear hbr hln hown
    by_cases hlt : j < n
    · by_cases h5 : j < 50
      · rcases HOW.out.shape with ⟨_, hnil⟩ | ⟨g, cap, e1, hg, hgl, hlc, hcm, hcell, hfr⟩
        · have := HL2.out; rw [hnil] at this; simp at this; omega
        · have q := hcell j (by have := HL2.out; omega)
          have hf := (hfr j (by have := HL2.out; omega)).1
          obtain ⟨rfl, rfl⟩ : a3 = some ⟨g, 0, none⟩ ∧ c3 = cap := by injection e1 with e1 _ e3; exact ⟨e1, e3⟩
          clear hcell hfr e1
          generalize lst.getD j 0 = x at *
          have hx := x.toNat_lt
          have hxi : (x.toNat : Int) < 256 := by omega
          have hv1 : ((x.toNat : Int) + 1) % 256 = ((UInt8.ofNat (x.toNat + 1)).toNat : Int) := by rw [UInt8.toNat_ofNat']; omega
          have HV1 := Lib.hid hv1
          clear hv1
          have hlt' : (j : Int) < n := by omega
          have h5' : (j : Int) < 50 := by omega
          go_wp2
          go_roundw
          case rel => exact ⟨j + 1, lst.set j (UInt8.ofNat (x.toNat + 1)), by omega, by omega, by go_num, by rw [List.length_set]; exact HL2.out, by rw [HV1.out]; exact own_store HOW.out _, HBR.out.setCell hg _⟩
          case measure => simp [intOf]; omega
      · obtain rfl : j = 50 := by omega
        go_wp2_with fail
        go_loopw [11] (fun i wr => i = .int .i64 0 ∧ Below w.heap.size w wr) (fun _ _ => 0)
        case atStart => exact ⟨rfl, HBR.out⟩
        case round =>
          obtain ⟨rfl, hbq⟩ := hrel
          have HBQ := Lib.hid hbq
          clear hbq
          by_cases hm0 : 0 < m
          all_goals
            first | (have g5 : (0 : Int) < m := by omega) | (have g5 : ¬ (0 : Int) < m := by omega)
            go_wp2_with (go_at_call 10; refine (pknows_any _).mono ?_; rintro e w9 ⟨rfl, hb9⟩)
            go_ret
            exact ⟨rfl, HBQ.out.trans (hb9.mono HBQ.out.size)⟩
    · obtain rfl : j = n := by omega
      go_wp2_with fail
      go_loopw [11] (fun i wr => i = .int .i64 0 ∧ Below w.heap.size w wr) (fun _ _ => 0)
      case atStart => exact ⟨rfl, HBR.out⟩
      case round =>
        obtain ⟨rfl, hbq⟩ := hrel
        have HBQ := Lib.hid hbq
        clear hbq
        by_cases hm0 : 0 < m
        all_goals
          first | (have g5 : (0 : Int) < m := by omega) | (have g5 : ¬ (0 : Int) < m := by omega)
          go_wp2_with (go_at_call 10; refine (pknows_any _).mono ?_; rintro e w9 ⟨rfl, hb9⟩)
          go_ret
          exact ⟨rfl, HBQ.out.trans (hb9.mono HBQ.out.size)⟩
set_option maxRecDepth 100000 in
set_option maxHeartbeats 8000000 in
theorem plays_ok (w : World) (A : Option Addr) (c : Nat) (l : List UInt8) (B : Option Addr) (d : Nat) (acts : List Pt.Act) (h : RdB w (.slice A l.length c) l) (hm : l.length ≤ 140737488351232)
    (ha : Rd w 2 (.slice B acts.length d) acts.length (acts.flatMap Pt.Act.cells)) (hok : ∀ x ∈ acts, x.ok) (hma : acts.length ≤ maxLen) (hl : l.length ≤ 2000) (hl2 : ¬ 100 < acts.length) :
    Calls Try.prog 6 #[.slice A l.length c, .slice B acts.length d] w fun e w' => e = .returned (.bool true) ∧ Below w.heap.size w w' := by
  unfold maxLen at hma
  have HOWN := Lib.hid (show OwnB 5 w.heap.size (w.alloc (.cells #[] 5)) (.slice (some ⟨w.heap.size, 0, none⟩) 0 0) [] from by
    have := OwnB.built w 5 #[] [] rfl (Nat.zero_le _) (Nat.le_refl _)
    simpa only [List.length_nil] using this)
  have HSR := Lib.hid (src_of_rd pbt (h.below ((Below.refl w.heap.size w).alloc (Nat.le_refl _) (.cells #[] 5))))
  have HLM := Lib.hid (show ([] : List UInt8).length + l.length ≤ 140737488355328 by simp; omega)
  have HB0 := Lib.hid ((Below.refl w.heap.size w).alloc (Nat.le_refl _) (.cells #[] 5))
  have HRI := Lib.hid (show ∀ W', Below w.heap.size w W' → RdB W' (.slice A l.length c) l from fun W' hb => h.below hb)
  have HL := Lib.hid hl
  have HOK := Lib.hid (show ∀ j, j < acts.length → (acts.getD j ⟨0, 0⟩).v < 4294967296 from fun j hj => by
    have hmem : acts.getD j ⟨0, 0⟩ ∈ acts := by simp [List.getD, List.getElem?_eq_getElem hj]
    exact hok _ hmem)
  obtain ⟨ga, oa, hBA, hcell⟩ := pact_cells ha rfl rfl
  have HC := Lib.hid hcell
  generalize hll : l.length = n at *
  have HLN := Lib.hid hll
  have HSR2 := Lib.hid (show Src Try.prog 1 22 (.slice A n c) l.length (bv l) (w.alloc (.cells #[] 5)) from by rw [hll]; exact HSR.out)
  have HLM2 := Lib.hid (show ([] : List UInt8).length + l.length ≤ 140737488355328 by rw [hll]; exact HLM.out)
  clear hll h ha hok HSR HLM hcell
  generalize acts.length = m at *
  have hn : (n : Int) ≤ 2000 := by omega
  have g3 : (m : Int) ≤ 100 := by omega
  go_enter Try.func6, Try.ntmps6
  go_wp2_with (at_builtin; refine wpList_appendB rfl _ _ _ _ rfl pbt w.heap.size _ rfl [] HOWN.out _ rfl l HSR2.out HLM2.out (by simp) ?_; intro v3 w3 ho3 hb3 _; rw [List.nil_append] at ho3; have HO3 := Lib.hid ho3; have HB3 := Lib.hid (HB0.out.trans hb3); obtain ⟨a3, c3, rfl⟩ := OwnB.len ho3 HLN.out; clear ho3 hb3)
  go_at_call 11
  refine (new_port w3 (.slice a3 n c3) l HO3.out.rd (by rw [HLN.out]; omega)).mono ?_
  rintro e w4 ⟨gp, gc, rfl, ho4, hb4⟩
  have HO4 := Lib.hid ho4
  have HB4 := Lib.hid (HB3.out.trans (hb4.mono HB3.out.size))
  have HB34 := Lib.hid hb4
  clear ho4 hb4
  go_wp2_with fail
  go_at_call 27
  refine (rnew_port w4 (.slice A n c) l (HRI.out _ HB4.out) (by rw [HLN.out]; omega)).mono ?_
  rintro e w5 ⟨gr, rfl, hr5, hb5⟩
  have HD5 := Lib.hid (Duo.made HO4.out hr5 hb5 HB34.out.size)
  have HB5 := Lib.hid (HB4.out.trans (hb5.mono HB4.out.size))
  have HO5 := Lib.hid ((HO3.out.kept HB34.out).kept hb5)
  have hcv1 := run_string_of pbt Try.underlying9 HO5.out.rd
  have hcv2 := run_string_of pbt Try.underlying9 (HRI.out _ HB5.out)
  clear hr5 hb5
  go_wp2_with (go_at_call 12; refine (pnum_any _ _).mono ?_; rintro e w' ⟨rfl, rfl⟩)
  clear hcv1 hcv2
  go_loopw [10] (fun i wr => ∃ (j : Nat) (lst : List UInt8), j ≤ n ∧ j ≤ 50 ∧ i = .int .i64 j ∧ lst.length = n ∧ OwnB 5 w.heap.size wr (.slice a3 n c3) lst ∧ Below w.heap.size w wr ∧ Duo wr w3.heap.size gp gc gr l [] false 0 l [] false 0) (fun i _ => n - (intOf i).toNat)
  case atStart => exact ⟨0, l, Nat.zero_le _, by omega, rfl, HLN.out, HO5.out, HB5.out, HD5.out⟩
  case round =>
    obtain ⟨j, lst, hj, h50, rfl, hln, hown, hbr, HD⟩ := hrel
    have HBR := Lib.hid hbr
    have HDR := Lib.hid HD
    clear HD
    have HL2 := Lib.hid hln
    have HOW := Lib.hid hown
    clear hbr hln hown
    by_cases hlt : j < n
    · by_cases h5 : j < 50
      · rcases HOW.out.shape with ⟨_, hnil⟩ | ⟨g, cap, e1, hg, hgl, hlc, hcm, hcell, hfr⟩
        · have := HL2.out; rw [hnil] at this; simp at this; omega
        · have q := hcell j (by have := HL2.out; omega)
          have hf := (hfr j (by have := HL2.out; omega)).1
          obtain ⟨rfl, rfl⟩ : a3 = some ⟨g, 0, none⟩ ∧ c3 = cap := by injection e1 with e1 _ e3; exact ⟨e1, e3⟩
          clear hcell hfr e1
          generalize lst.getD j 0 = x at *
          have hx := x.toNat_lt
          have hxi : (x.toNat : Int) < 256 := by omega
          have hv1 : ((x.toNat : Int) + 1) % 256 = ((UInt8.ofNat (x.toNat + 1)).toNat : Int) := by rw [UInt8.toNat_ofNat']; omega
          have HV1 := Lib.hid hv1
          clear hv1
          have hlt' : (j : Int) < n := by omega
          have h5' : (j : Int) < 50 := by omega
          go_wp2
          go_roundw
          case rel => exact ⟨j + 1, lst.set j (UInt8.ofNat (x.toNat + 1)), by omega, by omega, by go_num, by rw [List.length_set]; exact HL2.out, by rw [HV1.out]; exact own_store HOW.out _, HBR.out.setCell hg _, HDR.out.cell g j _ (HO3.out.lt g rfl).2⟩
          case measure => simp [intOf]; omega
      · obtain rfl : j = 50 := by omega
        go_wp2_with fail
        go_loopw [11] (fun i wr => ∃ (j : Nat) (ah pu : List UInt8) (hh : Bool) (cc : Nat), j ≤ m ∧ i = .int .i64 j ∧ Duo wr w3.heap.size gp gc gr ah pu hh cc ah pu hh cc ∧ Below w.heap.size w wr) (fun i _ => m - (intOf i).toNat)
        case atStart => exact ⟨0, _, _, _, _, Nat.zero_le _, rfl, HDR.out, HBR.out⟩
        case round =>
          obtain ⟨j, ah, pu, hh, cc, hj, rfl, hd, hbq⟩ := hrel
          have HBQ := Lib.hid hbq
          have HD := Lib.hid hd
          clear hbq hd
          by_cases hlt : j < m
          · obtain rfl := hBA (by omega)
            obtain ⟨q0, q1⟩ := HC.out wr HBQ.out j hlt
            have HV := Lib.hid (HOK.out j hlt)
            have hlt' : (j : Int) < m := by omega
            generalize hki : (acts.getD j ⟨0, 0⟩).kind = k at *
            generalize hva : (acts.getD j ⟨0, 0⟩).v = x at *
            have HKI := Lib.hid hki
            have HVA := Lib.hid hva
            clear hki hva
            by_cases k0 : k = 0
            · subst k0
              go_wp2_with fail
              refine (in_port wr _ gp gc ah pu hh cc HD.out.own).mono ?_
              rintro e wA ⟨rfl, hoA, hsA⟩
              have HDA := Lib.hid (HD.out.step hoA hsA)
              have HBA := Lib.hid (HBQ.out.trans ((PStep.below HD.out.own hsA).mono HB3.out.size))
              clear hoA hsA
              obtain ⟨q0, q1⟩ := HC.out wA HBA.out j hlt
              rw [HKI.out] at q0
              rw [HVA.out] at q1
              go_wp2_with fail
              refine (rin_port wA _ gr ah pu hh cc HDA.out.ref).mono ?_
              rintro e wB ⟨rfl, hrB, hsB⟩
              have HDB := Lib.hid (HDA.out.rstep hrB hsB)
              have HBB := Lib.hid (HBA.out.trans ((RStep.below HDA.out.ref hsB).mono HB3.out.size))
              clear hrB hsB q0 q1
              obtain ⟨a2, p2, h2, c2, HD2⟩ : ∃ a2 p2 h2 c2, Hid (Duo wB w3.heap.size gp gc gr a2 p2 h2 c2 a2 p2 h2 c2) := ⟨_, _, _, _, HDB⟩
              go_wp2_with fail
              refine (out_put _ _ gp gc a2 p2 h2 c2 HD2.out.own).mono ?_
              rintro e wC ⟨vo, rfl, hoC, hbC⟩
              have HBC := Lib.hid hbC
              rcases hoC.shape with ⟨rfl, hp0⟩ | ⟨go, cap, rfl, hgo, hgl, hlc, hcm, hcell, hfr⟩
              · have HDC := Lib.hid (HD2.out.kept hbC)
                have HBD := Lib.hid (HBB.out.trans (HBC.out.mono HBB.out.size))
                clear hoC hbC hp0
                go_wp2_with fail
                refine (same_any _ _ gp gc gr a2 p2 h2 c2 HDC.out).mono ?_
                rintro e wE ⟨rfl, hbE⟩
                go_wp2_with fail
                go_roundw
                case rel => exact ⟨j + 1, a2, p2, h2, c2, by omega, by go_num, HDC.out.kept hbE, HBD.out.trans (hbE.mono HBD.out.size)⟩
                case measure => simp [intOf]; omega
              · by_cases hp : 0 < p2.length
                · have q := hcell 0 hp
                  have hf := (hfr 0 (by omega)).1
                  have HDC := Lib.hid (fun u => HD2.out.kept (hbC.setCell (p := ⟨go, 0, none⟩) hgo u))
                  have HBD := Lib.hid (fun u => HBB.out.trans ((hbC.setCell (p := ⟨go, 0, none⟩) hgo u).mono HBB.out.size))
                  have hp' : (0 : Int) < p2.length := by omega
                  clear hoC hbC hcell hfr hp
                  generalize p2.length = np at *
                  generalize p2.getD 0 0 = y at *
                  have hy := y.toNat_lt
                  have hyi : (y.toNat : Int) < 256 := by omega
                  go_wp2_with fail
                  have HDE := Lib.hid (HDC.out (.int .u8 (((y.toNat : Int) + 1) % 256)))
                  have HBE := Lib.hid (HBD.out (.int .u8 (((y.toNat : Int) + 1) % 256)))
                  refine (same_any _ _ gp gc gr a2 p2 h2 c2 HDE.out).mono ?_
                  rintro e wE ⟨rfl, hbE⟩
                  go_wp2_with fail
                  go_roundw
                  case rel => exact ⟨j + 1, a2, p2, h2, c2, by omega, by go_num, HDE.out.kept hbE, HBE.out.trans (hbE.mono HBE.out.size)⟩
                  case measure => simp [intOf]; omega
                · have HDC := Lib.hid (HD2.out.kept hbC)
                  have HBD := Lib.hid (HBB.out.trans (HBC.out.mono HBB.out.size))
                  have hp0 : p2.length = 0 := by omega
                  rw [hp0]
                  clear hoC hbC hcell hfr hp hlc
                  go_wp2_with fail
                  refine (same_any _ _ gp gc gr a2 p2 h2 c2 HDC.out).mono ?_
                  rintro e wE ⟨rfl, hbE⟩
                  go_wp2_with fail
                  go_roundw
                  case rel => exact ⟨j + 1, a2, p2, h2, c2, by omega, by go_num, HDC.out.kept hbE, HBD.out.trans (hbE.mono HBD.out.size)⟩
                  case measure => simp [intOf]; omega
            · by_cases k1 : k = 1
              · subst k1
                go_wp2_with fail
                refine (out_port wr _ gp gc ah pu hh cc x HV.out HD.out.own).mono ?_
                rintro e wA ⟨rfl, hoA, hsA⟩
                have HDA := Lib.hid (HD.out.step hoA hsA)
                have HBA := Lib.hid (HBQ.out.trans ((PStep.below HD.out.own hsA).mono HB3.out.size))
                clear hoA hsA
                obtain ⟨q0, q1⟩ := HC.out wA HBA.out j hlt
                rw [HKI.out] at q0
                rw [HVA.out] at q1
                go_wp2_with fail
                refine (rout_port wA _ gr ah pu hh cc x HV.out HDA.out.ref).mono ?_
                rintro e wB ⟨rfl, hrB, hsB⟩
                have HDB := Lib.hid (HDA.out.rstep hrB hsB)
                have HBB := Lib.hid (HBA.out.trans ((RStep.below HDA.out.ref hsB).mono HB3.out.size))
                clear hrB hsB q0 q1
                obtain ⟨a2, p2, h2, c2, HD2⟩ : ∃ a2 p2 h2 c2, Hid (Duo wB w3.heap.size gp gc gr a2 p2 h2 c2 a2 p2 h2 c2) := ⟨_, _, _, _, HDB⟩
                go_wp2_with fail
                refine (out_put _ _ gp gc a2 p2 h2 c2 HD2.out.own).mono ?_
                rintro e wC ⟨vo, rfl, hoC, hbC⟩
                have HBC := Lib.hid hbC
                rcases hoC.shape with ⟨rfl, hp0⟩ | ⟨go, cap, rfl, hgo, hgl, hlc, hcm, hcell, hfr⟩
                · have HDC := Lib.hid (HD2.out.kept hbC)
                  have HBD := Lib.hid (HBB.out.trans (HBC.out.mono HBB.out.size))
                  clear hoC hbC hp0
                  go_wp2_with fail
                  refine (same_any _ _ gp gc gr a2 p2 h2 c2 HDC.out).mono ?_
                  rintro e wE ⟨rfl, hbE⟩
                  go_wp2_with fail
                  go_roundw
                  case rel => exact ⟨j + 1, a2, p2, h2, c2, by omega, by go_num, HDC.out.kept hbE, HBD.out.trans (hbE.mono HBD.out.size)⟩
                  case measure => simp [intOf]; omega
                · by_cases hp : 0 < p2.length
                  · have q := hcell 0 hp
                    have hf := (hfr 0 (by omega)).1
                    have HDC := Lib.hid (fun u => HD2.out.kept (hbC.setCell (p := ⟨go, 0, none⟩) hgo u))
                    have HBD := Lib.hid (fun u => HBB.out.trans ((hbC.setCell (p := ⟨go, 0, none⟩) hgo u).mono HBB.out.size))
                    have hp' : (0 : Int) < p2.length := by omega
                    clear hoC hbC hcell hfr hp
                    generalize p2.length = np at *
                    generalize p2.getD 0 0 = y at *
                    have hy := y.toNat_lt
                    have hyi : (y.toNat : Int) < 256 := by omega
                    go_wp2_with fail
                    have HDE := Lib.hid (HDC.out (.int .u8 (((y.toNat : Int) + 1) % 256)))
                    have HBE := Lib.hid (HBD.out (.int .u8 (((y.toNat : Int) + 1) % 256)))
                    refine (same_any _ _ gp gc gr a2 p2 h2 c2 HDE.out).mono ?_
                    rintro e wE ⟨rfl, hbE⟩
                    go_wp2_with fail
                    go_roundw
                    case rel => exact ⟨j + 1, a2, p2, h2, c2, by omega, by go_num, HDE.out.kept hbE, HBE.out.trans (hbE.mono HBE.out.size)⟩
                    case measure => simp [intOf]; omega
                  · have HDC := Lib.hid (HD2.out.kept hbC)
                    have HBD := Lib.hid (HBB.out.trans (HBC.out.mono HBB.out.size))
                    have hp0 : p2.length = 0 := by omega
                    rw [hp0]
                    clear hoC hbC hcell hfr hp hlc
                    go_wp2_with fail
                    refine (same_any _ _ gp gc gr a2 p2 h2 c2 HDC.out).mono ?_
                    rintro e wE ⟨rfl, hbE⟩
                    go_wp2_with fail
                    go_roundw
                    case rel => exact ⟨j + 1, a2, p2, h2, c2, by omega, by go_num, HDC.out.kept hbE, HBD.out.trans (hbE.mono HBD.out.size)⟩
                    case measure => simp [intOf]; omega
              · by_cases k2 : k = 2
                · subst k2
                  go_wp2_with fail
                  refine (halt_port wr _ gp gc ah pu hh cc x HV.out HD.out.own).mono ?_
                  rintro e wA ⟨rfl, hoA, hsA⟩
                  have HDA := Lib.hid (HD.out.step hoA hsA)
                  have HBA := Lib.hid (HBQ.out.trans ((PStep.below HD.out.own hsA).mono HB3.out.size))
                  clear hoA hsA
                  obtain ⟨q0, q1⟩ := HC.out wA HBA.out j hlt
                  rw [HKI.out] at q0
                  rw [HVA.out] at q1
                  go_wp2_with fail
                  refine (rhalt_port wA _ gr ah pu hh cc x HV.out HDA.out.ref).mono ?_
                  rintro e wB ⟨rfl, hrB, hsB⟩
                  have HDB := Lib.hid (HDA.out.rstep hrB hsB)
                  have HBB := Lib.hid (HBA.out.trans ((RStep.below HDA.out.ref hsB).mono HB3.out.size))
                  clear hrB hsB q0 q1
                  obtain ⟨a2, p2, h2, c2, HD2⟩ : ∃ a2 p2 h2 c2, Hid (Duo wB w3.heap.size gp gc gr a2 p2 h2 c2 a2 p2 h2 c2) := ⟨_, _, _, _, HDB⟩
                  go_wp2_with fail
                  refine (out_put _ _ gp gc a2 p2 h2 c2 HD2.out.own).mono ?_
                  rintro e wC ⟨vo, rfl, hoC, hbC⟩
                  have HBC := Lib.hid hbC
                  rcases hoC.shape with ⟨rfl, hp0⟩ | ⟨go, cap, rfl, hgo, hgl, hlc, hcm, hcell, hfr⟩
                  · have HDC := Lib.hid (HD2.out.kept hbC)
                    have HBD := Lib.hid (HBB.out.trans (HBC.out.mono HBB.out.size))
                    clear hoC hbC hp0
                    go_wp2_with fail
                    refine (same_any _ _ gp gc gr a2 p2 h2 c2 HDC.out).mono ?_
                    rintro e wE ⟨rfl, hbE⟩
                    go_wp2_with fail
                    go_roundw
                    case rel => exact ⟨j + 1, a2, p2, h2, c2, by omega, by go_num, HDC.out.kept hbE, HBD.out.trans (hbE.mono HBD.out.size)⟩
                    case measure => simp [intOf]; omega
                  · by_cases hp : 0 < p2.length
                    · have q := hcell 0 hp
                      have hf := (hfr 0 (by omega)).1
                      have HDC := Lib.hid (fun u => HD2.out.kept (hbC.setCell (p := ⟨go, 0, none⟩) hgo u))
                      have HBD := Lib.hid (fun u => HBB.out.trans ((hbC.setCell (p := ⟨go, 0, none⟩) hgo u).mono HBB.out.size))
                      have hp' : (0 : Int) < p2.length := by omega
                      clear hoC hbC hcell hfr hp
                      generalize p2.length = np at *
                      generalize p2.getD 0 0 = y at *
                      have hy := y.toNat_lt
                      have hyi : (y.toNat : Int) < 256 := by omega
                      go_wp2_with fail
                      have HDE := Lib.hid (HDC.out (.int .u8 (((y.toNat : Int) + 1) % 256)))
                      have HBE := Lib.hid (HBD.out (.int .u8 (((y.toNat : Int) + 1) % 256)))
                      refine (same_any _ _ gp gc gr a2 p2 h2 c2 HDE.out).mono ?_
                      rintro e wE ⟨rfl, hbE⟩
                      go_wp2_with fail
                      go_roundw
                      case rel => exact ⟨j + 1, a2, p2, h2, c2, by omega, by go_num, HDE.out.kept hbE, HBE.out.trans (hbE.mono HBE.out.size)⟩
                      case measure => simp [intOf]; omega
                    · have HDC := Lib.hid (HD2.out.kept hbC)
                      have HBD := Lib.hid (HBB.out.trans (HBC.out.mono HBB.out.size))
                      have hp0 : p2.length = 0 := by omega
                      rw [hp0]
                      clear hoC hbC hcell hfr hp hlc
                      go_wp2_with fail
                      refine (same_any _ _ gp gc gr a2 p2 h2 c2 HDC.out).mono ?_
                      rintro e wE ⟨rfl, hbE⟩
                      go_wp2_with fail
                      go_roundw
                      case rel => exact ⟨j + 1, a2, p2, h2, c2, by omega, by go_num, HDC.out.kept hbE, HBD.out.trans (hbE.mono HBD.out.size)⟩
                      case measure => simp [intOf]; omega
                · have g0 : (k == 0) = false := by simpa using k0
                  have g1 : (k == 1) = false := by simpa using k1
                  have g2 : (k == 2) = false := by simpa using k2
                  clear k0 k1 k2
                  obtain ⟨a2, p2, h2, c2, HD2⟩ : ∃ a2 p2 h2 c2, Hid (Duo wr w3.heap.size gp gc gr a2 p2 h2 c2 a2 p2 h2 c2) := ⟨_, _, _, _, HD⟩
                  go_wp2_with fail
                  refine (out_put _ _ gp gc a2 p2 h2 c2 HD2.out.own).mono ?_
                  rintro e wC ⟨vo, rfl, hoC, hbC⟩
                  have HBC := Lib.hid hbC
                  rcases hoC.shape with ⟨rfl, hp0⟩ | ⟨go, cap, rfl, hgo, hgl, hlc, hcm, hcell, hfr⟩
                  · have HDC := Lib.hid (HD2.out.kept hbC)
                    have HBD := Lib.hid (HBQ.out.trans (HBC.out.mono HBQ.out.size))
                    clear hoC hbC hp0
                    go_wp2_with fail
                    refine (same_any _ _ gp gc gr a2 p2 h2 c2 HDC.out).mono ?_
                    rintro e wE ⟨rfl, hbE⟩
                    go_wp2_with fail
                    go_roundw
                    case rel => exact ⟨j + 1, a2, p2, h2, c2, by omega, by go_num, HDC.out.kept hbE, HBD.out.trans (hbE.mono HBD.out.size)⟩
                    case measure => simp [intOf]; omega
                  · by_cases hp : 0 < p2.length
                    · have q := hcell 0 hp
                      have hf := (hfr 0 (by omega)).1
                      have HDC := Lib.hid (fun u => HD2.out.kept (hbC.setCell (p := ⟨go, 0, none⟩) hgo u))
                      have HBD := Lib.hid (fun u => HBQ.out.trans ((hbC.setCell (p := ⟨go, 0, none⟩) hgo u).mono HBQ.out.size))
                      have hp' : (0 : Int) < p2.length := by omega
                      clear hoC hbC hcell hfr hp
                      generalize p2.length = np at *
                      generalize p2.getD 0 0 = y at *
                      have hy := y.toNat_lt
                      have hyi : (y.toNat : Int) < 256 := by omega
                      go_wp2_with fail
                      have HDE := Lib.hid (HDC.out (.int .u8 (((y.toNat : Int) + 1) % 256)))
                      have HBE := Lib.hid (HBD.out (.int .u8 (((y.toNat : Int) + 1) % 256)))
                      refine (same_any _ _ gp gc gr a2 p2 h2 c2 HDE.out).mono ?_
                      rintro e wE ⟨rfl, hbE⟩
                      go_wp2_with fail
                      go_roundw
                      case rel => exact ⟨j + 1, a2, p2, h2, c2, by omega, by go_num, HDE.out.kept hbE, HBE.out.trans (hbE.mono HBE.out.size)⟩
                      case measure => simp [intOf]; omega
                    · have HDC := Lib.hid (HD2.out.kept hbC)
                      have HBD := Lib.hid (HBQ.out.trans (HBC.out.mono HBQ.out.size))
                      have hp0 : p2.length = 0 := by omega
                      rw [hp0]
                      clear hoC hbC hcell hfr hp hlc
                      go_wp2_with fail
                      refine (same_any _ _ gp gc gr a2 p2 h2 c2 HDC.out).mono ?_
                      rintro e wE ⟨rfl, hbE⟩
                      go_wp2_with fail
                      go_roundw
                      case rel => exact ⟨j + 1, a2, p2, h2, c2, by omega, by go_num, HDC.out.kept hbE, HBD.out.trans (hbE.mono HBD.out.size)⟩
                      case measure => simp [intOf]; omega
          · obtain rfl : j = m := by omega
            go_wp2_with fail
            go_at_call 10
            refine (pknows_any _).mono ?_
            rintro e w9 ⟨rfl, hb9⟩
            go_wp2_with fail
            go_ret
            exact ⟨rfl, HBQ.out.trans (hb9.mono HBQ.out.size)⟩
    · obtain rfl : j = n := by omega
      go_wp2_with fail
      go_loopw [11] (fun i wr => ∃ (j : Nat) (ah pu : List UInt8) (hh : Bool) (cc : Nat), j ≤ m ∧ i = .int .i64 j ∧ Duo wr w3.heap.size gp gc gr ah pu hh cc ah pu hh cc ∧ Below w.heap.size w wr) (fun i _ => m - (intOf i).toNat)
      case atStart => exact ⟨0, _, _, _, _, Nat.zero_le _, rfl, HDR.out, HBR.out⟩
      case round =>
        obtain ⟨j, ah, pu, hh, cc, hj, rfl, hd, hbq⟩ := hrel
        have HBQ := Lib.hid hbq
        have HD := Lib.hid hd
        clear hbq hd
        by_cases hlt : j < m
        · obtain rfl := hBA (by omega)
          obtain ⟨q0, q1⟩ := HC.out wr HBQ.out j hlt
          have HV := Lib.hid (HOK.out j hlt)
          have hlt' : (j : Int) < m := by omega
          generalize hki : (acts.getD j ⟨0, 0⟩).kind = k at *
          generalize hva : (acts.getD j ⟨0, 0⟩).v = x at *
          have HKI := Lib.hid hki
          have HVA := Lib.hid hva
          clear hki hva
          by_cases k0 : k = 0
          · subst k0
            go_wp2_with fail
            refine (in_port wr _ gp gc ah pu hh cc HD.out.own).mono ?_
            rintro e wA ⟨rfl, hoA, hsA⟩
            have HDA := Lib.hid (HD.out.step hoA hsA)
            have HBA := Lib.hid (HBQ.out.trans ((PStep.below HD.out.own hsA).mono HB3.out.size))
            clear hoA hsA
            obtain ⟨q0, q1⟩ := HC.out wA HBA.out j hlt
            rw [HKI.out] at q0
            rw [HVA.out] at q1
            go_wp2_with fail
            refine (rin_port wA _ gr ah pu hh cc HDA.out.ref).mono ?_
            rintro e wB ⟨rfl, hrB, hsB⟩
            have HDB := Lib.hid (HDA.out.rstep hrB hsB)
            have HBB := Lib.hid (HBA.out.trans ((RStep.below HDA.out.ref hsB).mono HB3.out.size))
            clear hrB hsB q0 q1
            obtain ⟨a2, p2, h2, c2, HD2⟩ : ∃ a2 p2 h2 c2, Hid (Duo wB w3.heap.size gp gc gr a2 p2 h2 c2 a2 p2 h2 c2) := ⟨_, _, _, _, HDB⟩
            go_wp2_with fail
            refine (out_put _ _ gp gc a2 p2 h2 c2 HD2.out.own).mono ?_
            rintro e wC ⟨vo, rfl, hoC, hbC⟩
            have HBC := Lib.hid hbC
            rcases hoC.shape with ⟨rfl, hp0⟩ | ⟨go, cap, rfl, hgo, hgl, hlc, hcm, hcell, hfr⟩
            · have HDC := Lib.hid (HD2.out.kept hbC)
              have HBD := Lib.hid (HBB.out.trans (HBC.out.mono HBB.out.size))
              clear hoC hbC hp0
              go_wp2_with fail
              refine (same_any _ _ gp gc gr a2 p2 h2 c2 HDC.out).mono ?_
              rintro e wE ⟨rfl, hbE⟩
              go_wp2_with fail
              go_roundw
              case rel => exact ⟨j + 1, a2, p2, h2, c2, by omega, by go_num, HDC.out.kept hbE, HBD.out.trans (hbE.mono HBD.out.size)⟩
              case measure => simp [intOf]; omega
            · by_cases hp : 0 < p2.length
              · have q := hcell 0 hp
                have hf := (hfr 0 (by omega)).1
                have HDC := Lib.hid (fun u => HD2.out.kept (hbC.setCell (p := ⟨go, 0, none⟩) hgo u))
                have HBD := Lib.hid (fun u => HBB.out.trans ((hbC.setCell (p := ⟨go, 0, none⟩) hgo u).mono HBB.out.size))
                have hp' : (0 : Int) < p2.length := by omega
                clear hoC hbC hcell hfr hp
                generalize p2.length = np at *
                generalize p2.getD 0 0 = y at *
                have hy := y.toNat_lt
                have hyi : (y.toNat : Int) < 256 := by omega
                go_wp2_with fail
                have HDE := Lib.hid (HDC.out (.int .u8 (((y.toNat : Int) + 1) % 256)))
                have HBE := Lib.hid (HBD.out (.int .u8 (((y.toNat : Int) + 1) % 256)))
                refine (same_any _ _ gp gc gr a2 p2 h2 c2 HDE.out).mono ?_
                rintro e wE ⟨rfl, hbE⟩
                go_wp2_with fail
                go_roundw
                case rel => exact ⟨j + 1, a2, p2, h2, c2, by omega, by go_num, HDE.out.kept hbE, HBE.out.trans (hbE.mono HBE.out.size)⟩
                case measure => simp [intOf]; omega
              · have HDC := Lib.hid (HD2.out.kept hbC)
                have HBD := Lib.hid (HBB.out.trans (HBC.out.mono HBB.out.size))
                have hp0 : p2.length = 0 := by omega
                rw [hp0]
                clear hoC hbC hcell hfr hp hlc
                go_wp2_with fail
                refine (same_any _ _ gp gc gr a2 p2 h2 c2 HDC.out).mono ?_
                rintro e wE ⟨rfl, hbE⟩
                go_wp2_with fail
                go_roundw
                case rel => exact ⟨j + 1, a2, p2, h2, c2, by omega, by go_num, HDC.out.kept hbE, HBD.out.trans (hbE.mono HBD.out.size)⟩
                case measure => simp [intOf]; omega
          · by_cases k1 : k = 1
            · subst k1
              go_wp2_with fail
              refine (out_port wr _ gp gc ah pu hh cc x HV.out HD.out.own).mono ?_
              rintro e wA ⟨rfl, hoA, hsA⟩
              have HDA := Lib.hid (HD.out.step hoA hsA)
              have HBA := Lib.hid (HBQ.out.trans ((PStep.below HD.out.own hsA).mono HB3.out.size))
              clear hoA hsA
              obtain ⟨q0, q1⟩ := HC.out wA HBA.out j hlt
              rw [HKI.out] at q0
              rw [HVA.out] at q1
              go_wp2_with fail
              refine (rout_port wA _ gr ah pu hh cc x HV.out HDA.out.ref).mono ?_
              rintro e wB ⟨rfl, hrB, hsB⟩
              have HDB := Lib.hid (HDA.out.rstep hrB hsB)
              have HBB := Lib.hid (HBA.out.trans ((RStep.below HDA.out.ref hsB).mono HB3.out.size))
              clear hrB hsB q0 q1
              obtain ⟨a2, p2, h2, c2, HD2⟩ : ∃ a2 p2 h2 c2, Hid (Duo wB w3.heap.size gp gc gr a2 p2 h2 c2 a2 p2 h2 c2) := ⟨_, _, _, _, HDB⟩
              go_wp2_with fail
              refine (out_put _ _ gp gc a2 p2 h2 c2 HD2.out.own).mono ?_
              rintro e wC ⟨vo, rfl, hoC, hbC⟩
              have HBC := Lib.hid hbC
              rcases hoC.shape with ⟨rfl, hp0⟩ | ⟨go, cap, rfl, hgo, hgl, hlc, hcm, hcell, hfr⟩
              · have HDC := Lib.hid (HD2.out.kept hbC)
                have HBD := Lib.hid (HBB.out.trans (HBC.out.mono HBB.out.size))
                clear hoC hbC hp0
                go_wp2_with fail
                refine (same_any _ _ gp gc gr a2 p2 h2 c2 HDC.out).mono ?_
                rintro e wE ⟨rfl, hbE⟩
                go_wp2_with fail
                go_roundw
                case rel => exact ⟨j + 1, a2, p2, h2, c2, by omega, by go_num, HDC.out.kept hbE, HBD.out.trans (hbE.mono HBD.out.size)⟩
                case measure => simp [intOf]; omega
              · by_cases hp : 0 < p2.length
                · have q := hcell 0 hp
                  have hf := (hfr 0 (by omega)).1
                  have HDC := Lib.hid (fun u => HD2.out.kept (hbC.setCell (p := ⟨go, 0, none⟩) hgo u))
                  have HBD := Lib.hid (fun u => HBB.out.trans ((hbC.setCell (p := ⟨go, 0, none⟩) hgo u).mono HBB.out.size))
                  have hp' : (0 : Int) < p2.length := by omega
                  clear hoC hbC hcell hfr hp
                  generalize p2.length = np at *
                  generalize p2.getD 0 0 = y at *
                  have hy := y.toNat_lt
                  have hyi : (y.toNat : Int) < 256 := by omega
                  go_wp2_with fail
                  have HDE := Lib.hid (HDC.out (.int .u8 (((y.toNat : Int) + 1) % 256)))
                  have HBE := Lib.hid (HBD.out (.int .u8 (((y.toNat : Int) + 1) % 256)))
                  refine (same_any _ _ gp gc gr a2 p2 h2 c2 HDE.out).mono ?_
                  rintro e wE ⟨rfl, hbE⟩
                  go_wp2_with fail
                  go_roundw
                  case rel => exact ⟨j + 1, a2, p2, h2, c2, by omega, by go_num, HDE.out.kept hbE, HBE.out.trans (hbE.mono HBE.out.size)⟩
                  case measure => simp [intOf]; omega
                · have HDC := Lib.hid (HD2.out.kept hbC)
                  have HBD := Lib.hid (HBB.out.trans (HBC.out.mono HBB.out.size))
                  have hp0 : p2.length = 0 := by omega
                  rw [hp0]
                  clear hoC hbC hcell hfr hp hlc
                  go_wp2_with fail
                  refine (same_any _ _ gp gc gr a2 p2 h2 c2 HDC.out).mono ?_
                  rintro e wE ⟨rfl, hbE⟩
                  go_wp2_with fail
                  go_roundw
                  case rel => exact ⟨j + 1, a2, p2, h2, c2, by omega, by go_num, HDC.out.kept hbE, HBD.out.trans (hbE.mono HBD.out.size)⟩
                  case measure => simp [intOf]; omega
            · by_cases k2 : k = 2
              · subst k2
                go_wp2_with fail
                refine (halt_port wr _ gp gc ah pu hh cc x HV.out HD.out.own).mono ?_
                rintro e wA ⟨rfl, hoA, hsA⟩
                have HDA := Lib.hid (HD.out.step hoA hsA)
                have HBA := Lib.hid (HBQ.out.trans ((PStep.below HD.out.own hsA).mono HB3.out.size))
                clear hoA hsA
                obtain ⟨q0, q1⟩ := HC.out wA HBA.out j hlt
                rw [HKI.out] at q0
                rw [HVA.out] at q1
                go_wp2_with fail
                refine (rhalt_port wA _ gr ah pu hh cc x HV.out HDA.out.ref).mono ?_
                rintro e wB ⟨rfl, hrB, hsB⟩
                have HDB := Lib.hid (HDA.out.rstep hrB hsB)
                have HBB := Lib.hid (HBA.out.trans ((RStep.below HDA.out.ref hsB).mono HB3.out.size))
                clear hrB hsB q0 q1
                obtain ⟨a2, p2, h2, c2, HD2⟩ : ∃ a2 p2 h2 c2, Hid (Duo wB w3.heap.size gp gc gr a2 p2 h2 c2 a2 p2 h2 c2) := ⟨_, _, _, _, HDB⟩
                go_wp2_with fail
                refine (out_put _ _ gp gc a2 p2 h2 c2 HD2.out.own).mono ?_
                rintro e wC ⟨vo, rfl, hoC, hbC⟩
                have HBC := Lib.hid hbC
                rcases hoC.shape with ⟨rfl, hp0⟩ | ⟨go, cap, rfl, hgo, hgl, hlc, hcm, hcell, hfr⟩
                · have HDC := Lib.hid (HD2.out.kept hbC)
                  have HBD := Lib.hid (HBB.out.trans (HBC.out.mono HBB.out.size))
                  clear hoC hbC hp0
                  go_wp2_with fail
                  refine (same_any _ _ gp gc gr a2 p2 h2 c2 HDC.out).mono ?_
                  rintro e wE ⟨rfl, hbE⟩
                  go_wp2_with fail
                  go_roundw
                  case rel => exact ⟨j + 1, a2, p2, h2, c2, by omega, by go_num, HDC.out.kept hbE, HBD.out.trans (hbE.mono HBD.out.size)⟩
                  case measure => simp [intOf]; omega
                · by_cases hp : 0 < p2.length
                  · have q := hcell 0 hp
                    have hf := (hfr 0 (by omega)).1
                    have HDC := Lib.hid (fun u => HD2.out.kept (hbC.setCell (p := ⟨go, 0, none⟩) hgo u))
                    have HBD := Lib.hid (fun u => HBB.out.trans ((hbC.setCell (p := ⟨go, 0, none⟩) hgo u).mono HBB.out.size))
                    have hp' : (0 : Int) < p2.length := by omega
                    clear hoC hbC hcell hfr hp
                    generalize p2.length = np at *
                    generalize p2.getD 0 0 = y at *
                    have hy := y.toNat_lt
                    have hyi : (y.toNat : Int) < 256 := by omega
                    go_wp2_with fail
                    have HDE := Lib.hid (HDC.out (.int .u8 (((y.toNat : Int) + 1) % 256)))
                    have HBE := Lib.hid (HBD.out (.int .u8 (((y.toNat : Int) + 1) % 256)))
                    refine (same_any _ _ gp gc gr a2 p2 h2 c2 HDE.out).mono ?_
                    rintro e wE ⟨rfl, hbE⟩
                    go_wp2_with fail
                    go_roundw
                    case rel => exact ⟨j + 1, a2, p2, h2, c2, by omega, by go_num, HDE.out.kept hbE, HBE.out.trans (hbE.mono HBE.out.size)⟩
                    case measure => simp [intOf]; omega
                  · have HDC := Lib.hid (HD2.out.kept hbC)
                    have HBD := Lib.hid (HBB.out.trans (HBC.out.mono HBB.out.size))
                    have hp0 : p2.length = 0 := by omega
                    rw [hp0]
                    clear hoC hbC hcell hfr hp hlc
                    go_wp2_with fail
                    refine (same_any _ _ gp gc gr a2 p2 h2 c2 HDC.out).mono ?_
                    rintro e wE ⟨rfl, hbE⟩
                    go_wp2_with fail
                    go_roundw
                    case rel => exact ⟨j + 1, a2, p2, h2, c2, by omega, by go_num, HDC.out.kept hbE, HBD.out.trans (hbE.mono HBD.out.size)⟩
                    case measure => simp [intOf]; omega
              · have g0 : (k == 0) = false := by simpa using k0
                have g1 : (k == 1) = false := by simpa using k1
                have g2 : (k == 2) = false := by simpa using k2
                clear k0 k1 k2
                obtain ⟨a2, p2, h2, c2, HD2⟩ : ∃ a2 p2 h2 c2, Hid (Duo wr w3.heap.size gp gc gr a2 p2 h2 c2 a2 p2 h2 c2) := ⟨_, _, _, _, HD⟩
                go_wp2_with fail
                refine (out_put _ _ gp gc a2 p2 h2 c2 HD2.out.own).mono ?_
                rintro e wC ⟨vo, rfl, hoC, hbC⟩
                have HBC := Lib.hid hbC
                rcases hoC.shape with ⟨rfl, hp0⟩ | ⟨go, cap, rfl, hgo, hgl, hlc, hcm, hcell, hfr⟩
                · have HDC := Lib.hid (HD2.out.kept hbC)
                  have HBD := Lib.hid (HBQ.out.trans (HBC.out.mono HBQ.out.size))
                  clear hoC hbC hp0
                  go_wp2_with fail
                  refine (same_any _ _ gp gc gr a2 p2 h2 c2 HDC.out).mono ?_
                  rintro e wE ⟨rfl, hbE⟩
                  go_wp2_with fail
                  go_roundw
                  case rel => exact ⟨j + 1, a2, p2, h2, c2, by omega, by go_num, HDC.out.kept hbE, HBD.out.trans (hbE.mono HBD.out.size)⟩
                  case measure => simp [intOf]; omega
                · by_cases hp : 0 < p2.length
                  · have q := hcell 0 hp
                    have hf := (hfr 0 (by omega)).1
                    have HDC := Lib.hid (fun u => HD2.out.kept (hbC.setCell (p := ⟨go, 0, none⟩) hgo u))
                    have HBD := Lib.hid (fun u => HBQ.out.trans ((hbC.setCell (p := ⟨go, 0, none⟩) hgo u).mono HBQ.out.size))
                    have hp' : (0 : Int) < p2.length := by omega
                    clear hoC hbC hcell hfr hp
                    generalize p2.length = np at *
                    generalize p2.getD 0 0 = y at *
                    have hy := y.toNat_lt
                    have hyi : (y.toNat : Int) < 256 := by omega
                    go_wp2_with fail
                    have HDE := Lib.hid (HDC.out (.int .u8 (((y.toNat : Int) + 1) % 256)))
                    have HBE := Lib.hid (HBD.out (.int .u8 (((y.toNat : Int) + 1) % 256)))
                    refine (same_any _ _ gp gc gr a2 p2 h2 c2 HDE.out).mono ?_
                    rintro e wE ⟨rfl, hbE⟩
                    go_wp2_with fail
                    go_roundw
                    case rel => exact ⟨j + 1, a2, p2, h2, c2, by omega, by go_num, HDE.out.kept hbE, HBE.out.trans (hbE.mono HBE.out.size)⟩
                    case measure => simp [intOf]; omega
                  · have HDC := Lib.hid (HD2.out.kept hbC)
                    have HBD := Lib.hid (HBQ.out.trans (HBC.out.mono HBQ.out.size))
                    have hp0 : p2.length = 0 := by omega
                    rw [hp0]
                    clear hoC hbC hcell hfr hp hlc
                    go_wp2_with fail
                    refine (same_any _ _ gp gc gr a2 p2 h2 c2 HDC.out).mono ?_
                    rintro e wE ⟨rfl, hbE⟩
                    go_wp2_with fail
                    go_roundw
                    case rel => exact ⟨j + 1, a2, p2, h2, c2, by omega, by go_num, HDC.out.kept hbE, HBD.out.trans (hbE.mono HBD.out.size)⟩
                    case measure => simp [intOf]; omega
        · obtain rfl : j = m := by omega
          go_wp2_with fail
          go_at_call 10
          refine (pknows_any _).mono ?_
          rintro e w9 ⟨rfl, hb9⟩
          go_wp2_with fail
          go_ret
          exact ⟨rfl, HBQ.out.trans (hb9.mono HBQ.out.size)⟩
/-- The law's walk. -/
theorem core_portPlays (w : World) (A : Option Addr) (c : Nat) (l : List UInt8) (B : Option Addr) (d : Nat) (acts : List Pt.Act) (h : RdB w (.slice A l.length c) l) (hm : l.length ≤ 140737488351232)
    (ha : Rd w 2 (.slice B acts.length d) acts.length (acts.flatMap Pt.Act.cells)) (hok : ∀ x ∈ acts, x.ok) (hma : acts.length ≤ maxLen) :
    Calls Try.prog 6 #[.slice A l.length c, .slice B acts.length d] w fun e w' => e = .returned (.bool true) ∧ Below w.heap.size w w' := by
  by_cases hno : (2000 < l.length ∧ l.length ≤ 65536) ∨ 100 < acts.length
  · exact plays_few w A c l B d acts h hm ha hok hma hno
  · by_cases hl : 65536 < l.length
    · exact plays_many w A c l B d acts h hm ha hok hma hl (by omega)
    · exact plays_ok w A c l B d acts h hm ha hok hma (by omega) (by omega)
end Go.Proofs.Ytfffkfcemajcpaa
