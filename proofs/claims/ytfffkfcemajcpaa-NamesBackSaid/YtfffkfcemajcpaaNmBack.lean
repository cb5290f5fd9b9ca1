/- The walk of the law NamesBack. -/
import Derived.Test.YtfffkfcemajcpaaNmBackP
import Derived.Test.YtfffkfcemajcpaaNmHeads
import Derived.Deep.DeepCutAuto
namespace Go.Proofs.Ytfffkfcemajcpaa
open Go.RowKit Kit
set_option linter.unusedVariables false
set_option linter.unusedSimpArgs false

theorem head_neq (s : ByteArray) (fl : Int) (a b c : Nat) (w : World) :
    (binOp .neq 38 (hv s fl a b c) (hv s fl a b c)).run Try.prog w = .ok (.bool false) w := by
  have hS : Try.prog.underlying 38 = some (.struct (Try.prog.fieldsOf 38)) := by kernel_rfl
  have hP : Try.prog.stoodInHeld 38 = false := by kernel_rfl
  have u9 := Try.underlying9
  have u3 := Try.underlying3
  have u29 := Try.underlying29
  rw [run_neq_struct, show (10000 : Nat) = 9999 + 1 from rfl, run_equalIn_agg w 9999 38 _ _ hS hP]
  simp only [Program.fieldsOf, Try.underlying38]
  go_simp
theorem heado_eql (s : ByteArray) (fl : Int) (a b c : Nat) (w : World) :
    (binOp .eql 41 (hv s fl a b c) (hv s fl a b c)).run Try.prog w = .ok (.bool true) w := by
  have hS : Try.prog.underlying 41 = some (.struct (Try.prog.fieldsOf 41)) := by kernel_rfl
  have hP : Try.prog.stoodInHeld 41 = false := by kernel_rfl
  have u9 := Try.underlying9
  have u3 := Try.underlying3
  have u29 := Try.underlying29
  rw [run_eql_struct, show (10000 : Nat) = 9999 + 1 from rfl, run_equalIn_agg w 9999 41 _ _ hS hP]
  simp only [Program.fieldsOf, Try.underlying41]
  go_simp

theorem toArray_data (s : ByteArray) : (⟨s.data.toList.toArray⟩ : ByteArray) = s := rfl
theorem name_lt (l : List UInt8) (k : Nat) : Nm.wat l k < 4294967296 := Nm.wordN_lt _ _ _ _

set_option maxRecDepth 100000 in
set_option maxHeartbeats 8000000 in
theorem core_namesBack (s : ByteArray) (fl : Int) (a b c : Nat) (vm : Value) (lm : List UInt8) (vb : Value) (l : List UInt8) (w : World) (hs : s.size ≤ maxLen) (ha : a < 4294967296) (hb : b < 4294967296) (hc : c < 4294967296) (hlm : RdB w vm lm) (hlmm : lm.length ≤ maxLen) (hl : RdB w vb l) (hlm0 : l.length ≤ maxLen) :
    Calls Try.prog 9 #[hv s fl a b c, vm, vb] w fun e w' => e = .returned (.bool true) ∧ Below w.heap.size w w' := by
  have hm := hs
  unfold maxLen at hm hlm0 hlmm
  obtain ⟨ab, cb, hvb⟩ := hl.length
  obtain ⟨am, cm, hvm⟩ := hlm.length
  have HB0 := Lib.hid (show Below w.heap.size w (w.alloc (.cells #[.string s, .int .i64 fl, .int .u32 a, .int .u32 b, .int .u32 c] 38)) from (Below.refl _ _).alloc (Nat.le_refl _) _)
  by_cases h : 2000 < s.size ∨ 100 < lm.length ∨ 2000 < l.length
  · subst hvb hvm
    generalize l.length = n at *
    generalize lm.length = nm at *
    by_cases h1 : 2000 < s.size
    · go_enter Try.func9, Try.ntmps9
      go_wp2_with (go_at_call 17; refine (knows_any _).mono ?_; rintro e w' ⟨rfl, hb⟩)
      go_ret
      exact ⟨rfl, ((Below.refl _ _).alloc (Nat.le_refl _) _).trans (hb.mono (by simp))⟩
    by_cases h2 : 100 < nm
    · go_enter Try.func9, Try.ntmps9
      go_wp2_with (go_at_call 17; refine (knows_any _).mono ?_; rintro e w' ⟨rfl, hb⟩)
      go_ret
      exact ⟨rfl, ((Below.refl _ _).alloc (Nat.le_refl _) _).trans (hb.mono (by simp))⟩
    have h3 : 2000 < n := by omega
    clear h
    go_enter Try.func9, Try.ntmps9
    go_wp2_with (go_at_call 17; refine (knows_any _).mono ?_; rintro e w' ⟨rfl, hb⟩)
    go_ret
    exact ⟨rfl, ((Below.refl _ _).alloc (Nat.le_refl _) _).trans (hb.mono (by simp))⟩
  have hs2 : s.size ≤ 2000 := by omega
  have hm2 : lm.length ≤ 100 := by omega
  have hl2 : l.length ≤ 2000 := by omega
  have hs3 : (s.size : Int) ≤ 2000 := by omega
  have hm3 : (lm.length : Int) ≤ 100 := by omega
  have hl3 : (l.length : Int) ≤ 2000 := by omega
  have H2 := Lib.hid (show ∀ W', Below (w.heap.size + 1) (w.alloc (.cells #[.string s, .int .i64 fl, .int .u32 a, .int .u32 b, .int .u32 c] 38)) W' →
      W'.cell? ⟨w.heap.size, 0, none⟩ = some (.string s) ∧ W'.cell? ⟨w.heap.size, 1, none⟩ = some (.int .i64 fl) ∧ W'.cell? ⟨w.heap.size, 2, none⟩ = some (.int .u32 a) ∧ W'.cell? ⟨w.heap.size, 3, none⟩ = some (.int .u32 b) ∧ W'.cell? ⟨w.heap.size, 4, none⟩ = some (.int .u32 c) from fun W' hb =>
    ⟨(hb.cell (p := ⟨w.heap.size, 0, none⟩) (by simp)).trans (by go_simp), (hb.cell (p := ⟨w.heap.size, 1, none⟩) (by simp)).trans (by go_simp), (hb.cell (p := ⟨w.heap.size, 2, none⟩) (by simp)).trans (by go_simp), (hb.cell (p := ⟨w.heap.size, 3, none⟩) (by simp)).trans (by go_simp), (hb.cell (p := ⟨w.heap.size, 4, none⟩) (by simp)).trans (by go_simp)⟩)
  have HL := Lib.hid hl; have HLM := Lib.hid hlm
  clear hl hlm h
  have hvb' := hvb
  have hvm' := hvm
  clear hvb hvm
  subst hvb' hvm'
  have HX := Lib.hid (show Nm.errN s.data.toList fl = 0 → Nm.right s.data.toList = true ∧ s.size ≤ 31 ∧ 0 ≤ fl ∧ fl ≤ 15 from fun h0 => by
    obtain ⟨k1, k2, k3⟩ := Nm.errN_zero h0
    obtain ⟨n, rfl⟩ := Int.eq_ofNat_of_zero_le k2
    exact ⟨(Nm.errN_nat.1 h0).1, k1, k2, k3⟩)
  go_enter Try.func9, Try.ntmps9
  go_wp2_with fail
  refine (own_any s fl a b c _).mono ?_
  rintro e w1 ⟨rfl, hb1⟩
  simp only [World.size_alloc] at hb1
  go_wp2_with fail
  refine (bytes_any s fl a b c _ hs ha hb hc).mono ?_
  rintro e w2 ⟨v, rfl, ho, hb2⟩
  have z1 := hb1.size
  simp only [World.size_alloc] at z1
  have hB2 := hb1.trans (hb2.mono z1)
  have HB2 := Lib.hid hB2; have HO := Lib.hid ho; clear hB2 hb2 hb1 ho
  have z2 := HB2.out.size
  simp only [World.size_alloc] at z2
  generalize hE : Nm.errN s.data.toList fl = E at *
  go_wp2_with fail
  refine (num_any _ _).mono ?_
  rintro e w' ⟨rfl, rfl⟩
  go_upto_if 38 with fail
  go_cut [] (fun wx => Below w.heap.size w wx)
  case first =>
    by_cases e0 : E = 0
    · obtain ⟨hr, h31, hf0, hf1⟩ := HX.out e0
      subst e0
      have HE := Lib.hid hE
      clear hE
      obtain ⟨f, rfl⟩ := Int.eq_ofNat_of_zero_le hf0
      have hf : f ≤ 15 := by omega
      have HOUT := Lib.hid (show Nm.outB s.data.toList f a b c = Nm.headB s.data.toList f a b c by rw [Nm.outB, if_pos HE.out, Int.toNat_natCast])
      have hLn : (Nm.outB s.data.toList f a b c).length = Nm.lengthN s.size := by rw [HOUT.out]; exact Nm.headB_length h31
      have hln : 14 + s.size ≤ Nm.lengthN s.size ∧ Nm.lengthN s.size ≤ 14 + s.size + 3 := by unfold Nm.lengthN; rw [if_neg (by omega)]; omega
      have HRV := Lib.hid (show Nm.readV (Nm.outB s.data.toList f a b c ++ lm) = .tuple #[hv s f a b c, .int .i64 (Nm.lengthN s.size : Nat), .int .i64 0] by
        rw [HOUT.out]; exact Nm.back1 s.data.toList f a b c lm hr h31 hf ha hb hc)
      have HLEN := Lib.hid (len_own s · hs)
      have hav := HO.out.len hLn
      generalize Nm.outB s.data.toList f a b c = L at *
      generalize Nm.lengthN s.size = N at *
      have HLN := Lib.hid hLn
      clear hLn HX
      obtain ⟨av, cv, rfl⟩ := hav
      go_wp2_with (at_builtin; refine wpList_appendB rfl _ _ _ _ rfl bt (w2.heap.size) _ rfl [] ?hown _ rfl L ?hsrc ?hl ?hb ?_)
      case hown => exact OwnB.built w2 5 #[] [] rfl (Nat.zero_le _) (Nat.le_refl _)
      case hsrc => have := src_of_rd bt (HO.out.rd.below ((Below.refl w2.heap.size w2).alloc (Nat.le_refl _) (.cells #[] 5))); exact this
      case hl => have := HLN.out; simp; omega
      case hb => simp
      intro v3 w3 ho3 hb3 _
      have HLM3 := Lib.hid (show RdB w3 (.slice am lm.length cm) lm from HLM.out.below (HB0.out.trans ((HB2.out.mono (by omega)).trans ((((Below.refl w2.heap.size w2).alloc (Nat.le_refl _) _).trans hb3).mono (by omega)))))
      have z3 : w2.heap.size ≤ w3.heap.size := (((Below.refl w2.heap.size w2).alloc (Nat.le_refl _) _).trans hb3).size
      go_wp2_with (at_builtin; refine wpList_appendB rfl _ _ _ _ rfl bt (w2.heap.size) _ rfl L ho3 _ rfl lm ?hsrc ?hl ?hb ?_)
      case hsrc => exact src_of_rd bt HLM3.out
      case hl => have := HLN.out; omega
      case hb => exact z3
      intro v4 w4 ho4 hb4 _
      have HB4 := Lib.hid (show Below w2.heap.size w2 w4 from (((Below.refl w2.heap.size w2).alloc (Nat.le_refl _) _).trans hb3).trans hb4)
      have z4 := HB4.out.size
      have HO4 := Lib.hid ho4.rd
      clear hb3 hb4 ho3 ho4
      have hR := read_own_rd v4 (L ++ lm) w4 HO4.out (by have := HLN.out; rw [List.length_append]; omega)
      rw [HRV.out] at hR
      go_wp2_with fail
      refine hR.mono ?_
      rintro e w5 ⟨rfl, hb5⟩
      clear hR
      have HB5 := Lib.hid (HB4.out.trans (hb5.mono z4))
      have z5 := HB5.out.size
      have HF6 := Lib.hid (show ∀ W', Below (w5.heap.size + 1) (w5.alloc (.cells #[.string s, .int .i64 f, .int .u32 a, .int .u32 b, .int .u32 c] 41)) W' →
        (W'.cell? ⟨w5.heap.size, 0, none⟩ = some (.string s) ∧ W'.cell? ⟨w5.heap.size, 1, none⟩ = some (.int .i64 f) ∧ W'.cell? ⟨w5.heap.size, 2, none⟩ = some (.int .u32 a) ∧ W'.cell? ⟨w5.heap.size, 3, none⟩ = some (.int .u32 b) ∧ W'.cell? ⟨w5.heap.size, 4, none⟩ = some (.int .u32 c)) ∧
        (W'.cell? ⟨w.heap.size, 0, none⟩ = some (.string s) ∧ W'.cell? ⟨w.heap.size, 1, none⟩ = some (.int .i64 f) ∧ W'.cell? ⟨w.heap.size, 2, none⟩ = some (.int .u32 a) ∧ W'.cell? ⟨w.heap.size, 3, none⟩ = some (.int .u32 b) ∧ W'.cell? ⟨w.heap.size, 4, none⟩ = some (.int .u32 c)) from fun W' hb => by
        refine ⟨⟨(hb.cell (p := ⟨w5.heap.size, 0, none⟩) (by simp)).trans (by go_simp), (hb.cell (p := ⟨w5.heap.size, 1, none⟩) (by simp)).trans (by go_simp), (hb.cell (p := ⟨w5.heap.size, 2, none⟩) (by simp)).trans (by go_simp), (hb.cell (p := ⟨w5.heap.size, 3, none⟩) (by simp)).trans (by go_simp), (hb.cell (p := ⟨w5.heap.size, 4, none⟩) (by simp)).trans (by go_simp)⟩, H2.out _ ?_⟩
        exact HB2.out.trans ((HB5.out.trans (((Below.refl w5.heap.size w5).alloc (Nat.le_refl _) _).trans (hb.mono (by omega)) |>.mono z5)).mono z2))
      have HB5' := Lib.hid (show Below w.heap.size w (w5.alloc (.cells #[.string s, .int .i64 f, .int .u32 a, .int .u32 b, .int .u32 c] 41)) from (HB0.out.trans ((HB2.out.trans (HB5.out.mono z2)).mono (by omega))).alloc (by omega) _)
      clear hb5
      have hq := fun W => head_neq s f a b c W
      have HLN2 := HLN.out
      have g0 : ((N : Int) != (N : Int)) = false := by simp
      go_wp2_with fail
      go_region_held3 (fun W' => (W'.cell? ⟨w5.heap.size, 0, none⟩ = some (.string s) ∧ W'.cell? ⟨w5.heap.size, 1, none⟩ = some (.int .i64 f) ∧ W'.cell? ⟨w5.heap.size, 2, none⟩ = some (.int .u32 a) ∧ W'.cell? ⟨w5.heap.size, 3, none⟩ = some (.int .u32 b) ∧ W'.cell? ⟨w5.heap.size, 4, none⟩ = some (.int .u32 c)) ∧
        (W'.cell? ⟨w.heap.size, 0, none⟩ = some (.string s) ∧ W'.cell? ⟨w.heap.size, 1, none⟩ = some (.int .i64 f) ∧ W'.cell? ⟨w.heap.size, 2, none⟩ = some (.int .u32 a) ∧ W'.cell? ⟨w.heap.size, 3, none⟩ = some (.int .u32 b) ∧ W'.cell? ⟨w.heap.size, 4, none⟩ = some (.int .u32 c)))
        (first | exact HF6.out _ hb7 | exact HF6.out _ (by repeat (first | exact Below.refl _ _ | apply Below.drew)))
        (first
          | (go_at_call 26; refine (num_any _ _).mono ?_; rintro e w' ⟨rfl, rfl⟩)
          | (go_at_call 22; refine (HLEN.out _).mono ?_; rintro e w' ⟨rfl, rfl⟩)
          | (go_at_call 37; refine (refOf_any s f a b c _).mono ?_; rintro e w7 ⟨rfl, hb7'⟩; have hb7 : Below (w5.heap.size + 1) (w5.alloc (.cells #[.string s, .int .i64 f, .int .u32 a, .int .u32 b, .int .u32 c] 41)) w7 := (Below.refl _ _).drew.trans (hb7'.mono (by simp))))
      go_wp2_with fail
      go_meet
      exact HB5'.out.trans (hb7.mono (by omega))
    · have g1 : (E == 0) = false := by simpa using e0
      go_wp2_with fail
      go_meet
      exact HB0.out.trans (HB2.out.mono (by omega))
  case rest =>
    have HC := Lib.hid hcut
    have HLc := Lib.hid (HL.out.below hcut)
    clear hcut HX hE HO HB2 z1 z2
    cases hg : Nm.goodB l
    · have hR := read_own_rd _ l wc HLc.out hl2
      rw [Nm.readV_bad hg] at hR
      clear hg
      go_wp2_with fail
      refine hR.mono ?_
      rintro e w5 ⟨rfl, hb5⟩
      clear hR
      have HB5 := Lib.hid (HC.out.trans (hb5.mono HC.out.size))
      clear hb5
      have hq := fun W => heado_eql ⟨#[]⟩ 0 0 0 0 W
      go_wp2_with fail
      refine (num_any _ _).mono ?_
      rintro e w' ⟨rfl, rfl⟩
      go_wp2_with (go_at_call 17; refine (knows_any _).mono ?_; rintro e w8 ⟨rfl, hb8⟩)
      go_ret
      exact ⟨rfl, (HB5.out.alloc HB5.out.size _).trans (hb8.mono (by have := HB5.out.size; simp; omega))⟩
    · have hR := read_own_rd _ l wc HLc.out hl2
      rw [Nm.readV_good hg] at hR
      obtain ⟨k1, k2, k3⟩ := Nm.back2 l hg
      have hgt := Nm.goodB_true hg
      have h14 : 14 ≤ l.length := by
        simp only [Nm.goodB, Bool.and_eq_true, decide_eq_true_eq] at hg; exact hg.1
      have hnm : (⟨(Nm.name l).toArray⟩ : ByteArray).size ≤ maxLen := by
        have := right_size (s := ⟨(Nm.name l).toArray⟩) hgt.1; unfold maxLen; omega
      have HBY := Lib.hid (show ∀ W', Calls Try.prog 24 #[hv ⟨(Nm.name l).toArray⟩ (Nm.flg l) (Nm.wat l 0) (Nm.wat l 4) (Nm.wat l 8)] W' fun e w' => ∃ v, e = .returned (.tuple #[v, .int .i64 0]) ∧ OwnB 5 W'.heap.size w' v (l.take (Nm.lengthN (Nm.nl l))) ∧ Below W'.heap.size W' w' from fun W' => by
        have := bytes_any ⟨(Nm.name l).toArray⟩ (Nm.flg l) (Nm.wat l 0) (Nm.wat l 4) (Nm.wat l 8) W' hnm (name_lt l 0) (name_lt l 4) (name_lt l 8)
        rw [k1, k2] at this
        exact this)
      rcases HLc.out with ⟨_, _, he, hnil⟩ | ⟨g, off, cap, he, hgW, hlc, hcm, hcell⟩
      · rw [hnil] at h14; simp at h14
      obtain ⟨rfl, -, rfl⟩ : ab = some ⟨g, off, none⟩ ∧ True ∧ cb = cap := by injection he with e1 e2 e3; exact ⟨e1, trivial, e3⟩
      obtain ⟨vL, h3, r3⟩ := slice_rd bt g off l.length cb 0 (Nm.lengthN (Nm.nl l)) (by omega) (by omega)
      have hsl : ∀ W', (Instr.slice 22 (.slice (some ⟨g, off, none⟩) l.length cb) none (some (.int .i64 (Nm.lengthN (Nm.nl l) : Nat))) none).run Try.prog W' = .ok vL W' := fun W' => by
        have e3 := h3 0 (Nm.lengthN (Nm.nl l)) rfl rfl W'
        rw [slice_run g off l.length cb 0 _ (by omega) (by omega) 0 _ rfl rfl W'] at e3
        rw [slice_run_h g off l.length cb _ (by omega) _ rfl W']
        exact e3
      have HCV := Lib.hid (show ∀ W', Below wc.heap.size wc W' → (convert 22 9 vL).run Try.prog W' = .ok (.string ⟨(l.take (Nm.lengthN (Nm.nl l))).toArray⟩) W' from fun W' hb => by
        have := run_string_of bt Try.underlying9 (r3 W' l rfl k3 hlc hcm (Nat.lt_of_lt_of_le hgW hb.size) (fun j hj => (hb.cell (p := ⟨g, off + j, none⟩) hgW).trans (hcell j hj)))
        simpa using this)
      have hN3 : ((Nm.lengthN (Nm.nl l) : Nat) : Int) ≤ (l.length : Int) := by omega
      clear he h3 r3 hcell hgt k1 k2 hg
      generalize (⟨(Nm.name l).toArray⟩ : ByteArray) = s' at *
      generalize Nm.wat l 0 = a' at *
      generalize Nm.wat l 4 = b' at *
      generalize Nm.wat l 8 = c' at *
      generalize Nm.flg l = f' at *
      generalize hT : l.take (Nm.lengthN (Nm.nl l)) = T at *
      have HT := Lib.hid hT
      clear hT
      generalize Nm.lengthN (Nm.nl l) = N' at *
      go_wp2_with fail
      refine hR.mono ?_
      rintro e w5 ⟨rfl, hb5⟩
      clear hR
      have HB5 := Lib.hid hb5
      clear hb5
      go_wp2_with fail
      refine (num_any _ _).mono ?_
      rintro e w' ⟨rfl, rfl⟩
      go_wp2_with fail
      refine (HBY.out _).mono ?_
      rintro e w6 ⟨v6, rfl, ho6, hb6⟩
      have HB6 := Lib.hid (show Below wc.heap.size wc w6 from (HB5.out.alloc HB5.out.size _).trans (hb6.mono (by have := HB5.out.size; simp; omega)))
      have HO6 := Lib.hid ho6.rd
      clear hb6 ho6
      have HF := Lib.hid (show ∀ W', Below w6.heap.size w6 W' → (convert 22 9 v6).run Try.prog W' = .ok (.string ⟨T.toArray⟩) W' ∧ (convert 22 9 vL).run Try.prog W' = .ok (.string ⟨T.toArray⟩) W' from fun W' hb =>
        ⟨run_string_of bt Try.underlying9 (HO6.out.below hb), HCV.out W' (HB6.out.trans (hb.mono HB6.out.size))⟩)
      have hTT : (T == T) = true := by simp
      go_wp2_with fail
      go_region_held3 (fun W' => (convert 22 9 v6).run Try.prog W' = .ok (.string ⟨T.toArray⟩) W' ∧ (convert 22 9 vL).run Try.prog W' = .ok (.string ⟨T.toArray⟩) W')
        (first | exact HF.out _ hb8 | exact HF.out _ (by repeat (first | exact Below.refl _ _ | apply Below.drew)))
        (first
          | (go_at_call 26; refine (num_any _ _).mono ?_; rintro e w' ⟨rfl, rfl⟩)
          | (go_at_call 17; refine (knows_any _).mono ?_; rintro e w8 ⟨rfl, hb8'⟩; have hb8 : Below w6.heap.size w6 w8 := (Below.refl _ _).drew.trans (hb8'.mono (by simp))))
      go_wp2
      go_ret
      exact ⟨rfl, (HC.out.trans (HB6.out.mono HC.out.size)).trans (hb8.mono (HC.out.trans (HB6.out.mono HC.out.size)).size)⟩

end Go.Proofs.Ytfffkfcemajcpaa
