/- Texts joined, what is not reached left out. -/
import Derived.Test.YtpcpaoeajcjoiaaGreatDoorPJ
/- The walk of the law ImageChains. -/
namespace Go.Proofs.YtpcpaoeajcjoiaaGreatDoor
open Go.RowKit Kit
set_option linter.unusedVariables false
set_option linter.unusedSimpArgs false

theorem Im.named_at {rs : List Im.Raw} {j : Nat} (hj : j < rs.length) (h : ∀ m (hm : m < rs.length), m < j → Im.named rs[m].name = true) (h2 : Im.named rs[j].name = true) : ∀ m (hm : m < rs.length), m < j + 1 → Im.named rs[m].name = true := fun m hm hlt => by
  by_cases e : m = j
  · subst e; exact h2
  · exact h m hm (by omega)
/-- Where the last word of a bucket lies, among the first m. -/
def Im.laV (ws : List Im.W) (m k : Nat) : Nat := (Im.laF 4 Im.z32 (ws.take m)).getD k 0
theorem Im.laV_zero (ws : List Im.W) (k : Nat) : Im.laV ws 0 k = 0 := by unfold Im.laV; rw [List.take_zero]; exact Im.z32_at k
theorem Im.laV_next (ws : List Im.W) (m k : Nat) (hm : m < ws.length) (hk : k < 32) : Im.laV ws (m + 1) k = if Im.key ws[m] = k then 4 + Im.szs (ws.take m) else Im.laV ws m k := by
  unfold Im.laV
  rw [List.take_succ_eq_append_getElem hm]
  exact Im.la_snoc _ _ k hk
def Im.seenN (ws : List Im.W) (k m : Nat) : Nat := Im.cnt (fun q => decide (q < k)) ws + Im.cnt (fun q => decide (q = k)) (ws.drop m)
theorem Im.seen_next (ws : List Im.W) (k m : Nat) (hm : m < ws.length) : Im.seenN ws k m = (if Im.key ws[m] = k then 1 else 0) + Im.seenN ws k (m + 1) := by
  unfold Im.seenN
  rw [Im.cnt_drop k ws m hm]
  omega
theorem Im.seen_full (ws : List Im.W) (k : Nat) : Im.cnt (fun q => decide (q < k)) ws = Im.seenN ws k ws.length := by
  unfold Im.seenN
  rw [List.drop_length]
  rfl
theorem Im.seen_zero (ws : List Im.W) (k : Nat) : Im.seenN ws k 0 = Im.cnt (fun q => decide (q < k + 1)) ws := by
  unfold Im.seenN
  rw [List.drop_zero]
  exact Im.cnt_next k ws
theorem Im.seen_le (ws : List Im.W) (k m : Nat) : Im.seenN ws k m ≤ 2 * ws.length := by
  unfold Im.seenN Im.cnt
  dsimp only
  have h1 := List.countP_le_length (l := ws) (p := fun x => decide (Im.key x < k))
  have h2 := List.countP_le_length (l := ws.drop m) (p := fun x => decide (Im.key x = k))
  have h3 : (ws.drop m).length ≤ ws.length := by rw [List.length_drop]; omega
  omega
theorem Im.wrap_dn (n : Nat) (h : n < 4611686018427387904) : IntKind.i64.wrap ((n : Int) - 1) = (n : Int) - 1 := by
  rw [IntKind.wrap_i64]
  omega
theorem Im.szs_split {ws : List Im.W} {m : Nat} (hm : m < ws.length) : Im.szs (ws.take m) + Im.wsz ws[m] ≤ Im.szs ws ∧ Im.szs ws = Im.szs (ws.take m ++ ws[m] :: ws.drop (m + 1)) := by
  have h := Im.take_next hm
  have h2 : Im.szs ws = Im.szs (ws.take m ++ ws[m] :: ws.drop (m + 1)) := congrArg Im.szs h
  refine ⟨?_, h2⟩
  rw [h2, Im.szs_app, Im.szs]
  omega
theorem Im.symL_cnt : ∀ (ws : List Im.W) (pos : Nat) (prev : List UInt8), (Im.symL pos prev ws).length ≤ 2 + 3 * ws.length
  | [], pos, prev => by unfold Im.symL Im.symE; split <;> simp
  | x :: r, pos, prev => by
    have := Im.symL_cnt r (pos + Im.wsz x) (Im.own x)
    have he : (Im.symE pos prev).length ≤ 1 := by unfold Im.symE; split <;> simp
    rw [Im.symL, List.length_append, List.length_cons, List.length_cons, List.length_cons]
    omega
theorem Im.symL_len (ws : List Im.W) (pos : Nat) (prev : List UInt8) (h : ws.length ≤ 20) : (Im.symL pos prev ws).length ≤ 5000000000 := by
  have := Im.symL_cnt ws pos prev
  omega
theorem Im.sl2 (c0 c1 : UInt8) (t : List UInt8) : ((((⟨(c0 :: c1 :: t).toArray⟩ : ByteArray).extract 0 2).toList == [47, 47]) : Bool) = L6.note (c0 :: c1 :: t) := by
  rw [ext_eq, ByteArray.toList_mk, L6.note_two]
  simp
set_option maxRecDepth 100000 in
set_option maxHeartbeats 16000000 in
theorem core_imageChains (v : Value) (rs : List Im.Raw) (w : World) (h : Rd w 4 v rs.length (Im.rowC rs)) (hnl : rs.length ≤ maxLen) (hx : ∀ r ∈ rs, r.name.length ≤ maxLen) (hT : L6.Tab w) :
    Calls Tryz.prog 4 #[v] w fun e w' => e = .returned (.bool true) ∧ Below w.heap.size w w' := by
  have HH := Lib.hid h
  have HX := Lib.hid hx
  have HT := Lib.hid hT
  have CK := Lib.hid (fun W (hW : Below w.heap.size w W) => iknows10_any W (hT.kept hW))
  obtain ⟨A, c, rfl⟩ := h.form
  have HNL := Lib.hid hnl
  clear h hx hT hnl
  by_cases hn : 20 < rs.length
  · have hn' : (20 : Int) < (rs.length : Int) := by omega
    go_enter Tryz.func4, Tryz.ntmps4
    go_wp2_with (go_at_call 16; refine (CK.out _ (Below.refl _ _)).mono ?_; rintro e w1 ⟨rfl, hb1⟩)
    go_ret
    exact ⟨rfl, hb1⟩
  · have hn' : ¬ (20 : Int) < (rs.length : Int) := by omega
    go_enter Tryz.func4, Tryz.ntmps4
    go_wp2_with (go_at_call 16; refine (CK.out _ (Below.refl _ _)).mono ?_; rintro e w1 ⟨rfl, hb1⟩)
    have HB1 := Lib.hid hb1
    clear hb1
    go_loopw [3] (fun i wr => ∃ j : Nat, i = .int .i64 (j : Int) ∧ j ≤ rs.length ∧ (∀ m (hm : m < rs.length), m < j → Im.named rs[m].name = true) ∧ Below w.heap.size w wr) (fun i _ => rs.length - (intOf i).toNat)
    case atStart => exact ⟨0, rfl, Nat.zero_le _, fun m _ hm => absurd hm (by omega), HB1.out⟩
    case round =>
      obtain ⟨j, rfl, hj, hall, hbr⟩ := hrel
      have HALL := Lib.hid hall
      have HBR := Lib.hid hbr
      clear hall hbr
      by_cases hlt : j < rs.length
      · have hlt' : (j : Int) < (rs.length : Int) := by omega
        have hw1 : IntKind.i64.wrap ((j : Int) + 1) = (j : Int) + 1 := by clear HALL HBR HB1 HX HH CK HT HNL; rw [IntKind.wrap_i64]; omega
        obtain ⟨g, off, c', e, hg, q0, q1, q2, q3⟩ := Im.row_rd (HH.out.kept HBR.out) hlt
        injection e with e1 e2 e3
        subst e1 e3
        have HNX := Lib.hid (Im.named_at hlt HALL.out)
        have hml := HX.out _ (List.getElem_mem hlt)
        obtain ⟨nm, hnm⟩ : ∃ a, rs[j].name = a := ⟨_, rfl⟩
        rw [hnm] at q0 hml HNX
        have CR := Lib.hid (fun W => xright_ref ⟨nm.toArray⟩ W hml)
        have HND := Lib.hid (show Im.named nm = (Nm.right nm && (!(nm.headD 0 == 34) && !(L6.note nm))) from rfl)
        clear q1 q2 q3 hnm
        cases hr : Nm.right nm
        · rw [hr] at CR
          go_wp2_with (go_at_call 17; refine (CR.out _).mono ?_; rintro e w' ⟨rfl, rfl⟩)
          go_ret
          exact ⟨rfl, HBR.out⟩
        · rw [hr] at CR HND
          cases nm with
          | nil => exact absurd hr (by decide)
          | cons c0 t =>
            by_cases h34 : c0 = 34
            · subst h34
              go_wp2_with (go_at_call 17; refine (CR.out _).mono ?_; rintro e w' ⟨rfl, rfl⟩)
              go_ret
              exact ⟨rfl, HBR.out⟩
            · have hb34 : ¬ (c0.toNat : Int) = 34 := fun e => h34 (UInt8.toNat_inj.1 (by show c0.toNat = 34; omega))
              have hb35 : ((c0.toNat : Int) == 34) = false := byte_ne 34 h34
              cases t with
              | nil =>
                as_aux_lemma =>
                  have HD := Lib.hid (show Im.named [c0] = true by rw [HND.out]; simp [h34, L6.note])
                  go_wp2_with (go_at_call 17; refine (CR.out _).mono ?_; rintro e w' ⟨rfl, rfl⟩)
                  rename_i z1 z2
                  clear hr hb34 hb35 z1 z2
                  go_loopw [4] (fun i wy => ∃ k : Nat, i = .int .i64 (k : Int) ∧ k ≤ j ∧ Below wr.heap.size wr wy) (fun i _ => j - (intOf i).toNat)
                  case atStart => exact ⟨0, rfl, Nat.zero_le _, Below.refl _ _⟩
                  case round =>
                    obtain ⟨k, rfl, hk, hby⟩ := hrel
                    have HBY := Lib.hid hby
                    have HBW := Lib.hid (HBR.out.trans (hby.mono HBR.out.size))
                    by_cases hlk : k < j
                    · have hlk' : (k : Int) < (j : Int) := by omega
                      have hlk2 : (k : Int) < (rs.length : Int) := by omega
                      have hw2 : IntKind.i64.wrap ((k : Int) + 1) = (k : Int) + 1 := by clear HALL HBR HB1 HX HH CK HT HNL HNX HND; rw [IntKind.wrap_i64]; omega
                      have p0 := (hby.cell (p := ⟨g, off + j * 4, none⟩) hg).trans q0
                      obtain ⟨g2, off2, c2', e, hg2, r0, r1, r2, r3⟩ := Im.row_rd (HH.out.kept HBW.out) (show k < rs.length by omega)
                      injection e with e1 e2 e3
                      injection e1 with e1
                      injection e1 with e1 e4 _
                      subst e1 e3 e4
                      generalize rs[k].name = nk at *
                      clear hby r1 r2 r3 hg2
                      cases hq : (nk == ([c0] : List UInt8))
                      · go_wp2_with fail
                        refine wp_region_still_lit (by kernel_rfl) (by kernel_rfl) ?_
                        repeat ((with_reducible refine wpStill_step (fun K hK => ?_)); go_simp; (try go_bits); (with_reducible refine hK _ ?_); clear hK K)
                        refine wpStill_nil ?_
                        go_wp2_with fail
                        go_roundw
                        case rel => exact ⟨k + 1, by go_num, by omega, HBY.out.drew⟩
                        case measure => simp [intOf]; omega
                      · go_wp2_with fail
                        refine wp_region_still_lit (by kernel_rfl) (by kernel_rfl) ?_
                        repeat ((with_reducible refine wpStill_step (fun K hK => ?_)); go_simp; (try go_bits); (with_reducible refine hK _ ?_); clear hK K)
                        refine wpStill_nil ?_
                        go_wp2_with fail
                        go_ret
                        exact ⟨rfl, HBW.out.drew⟩
                    · obtain rfl : k = j := by omega
                      clear hby
                      go_wp2_with fail
                      go_roundw
                      case rel => exact ⟨k + 1, by go_num, by omega, HNX.out HD.out, HBW.out⟩
                      case measure => simp [intOf]; omega
              | cons c1 t2 =>
                as_aux_lemma =>
                  have hsl := Im.sl2 c0 c1 t2
                  cases hno : L6.note (c0 :: c1 :: t2)
                  · rw [hno] at hsl
                    have HD := Lib.hid (show Im.named (c0 :: c1 :: t2) = true by rw [HND.out, hno]; simp [h34])
                    go_wp2_with (go_at_call 17; refine (CR.out _).mono ?_; rintro e w' ⟨rfl, rfl⟩)
                    rename_i z1 z2 z3 z4
                    clear hr hb34 hb35 z2 z4
                    go_loopw [4] (fun i wy => ∃ k : Nat, i = .int .i64 (k : Int) ∧ k ≤ j ∧ Below wr.heap.size wr wy) (fun i _ => j - (intOf i).toNat)
                    case atStart => exact ⟨0, rfl, Nat.zero_le _, Below.refl _ _⟩
                    case round =>
                      obtain ⟨k, rfl, hk, hby⟩ := hrel
                      have HBY := Lib.hid hby
                      have HBW := Lib.hid (HBR.out.trans (hby.mono HBR.out.size))
                      by_cases hlk : k < j
                      · have hlk' : (k : Int) < (j : Int) := by omega
                        have hlk2 : (k : Int) < (rs.length : Int) := by omega
                        have hw2 : IntKind.i64.wrap ((k : Int) + 1) = (k : Int) + 1 := by clear HALL HBR HB1 HX HH CK HT HNL HNX HND; rw [IntKind.wrap_i64]; omega
                        have p0 := (hby.cell (p := ⟨g, off + j * 4, none⟩) hg).trans q0
                        obtain ⟨g2, off2, c2', e, hg2, r0, r1, r2, r3⟩ := Im.row_rd (HH.out.kept HBW.out) (show k < rs.length by omega)
                        injection e with e1 e2 e3
                        injection e1 with e1
                        injection e1 with e1 e4 _
                        subst e1 e3 e4
                        generalize rs[k].name = nk at *
                        clear hby r1 r2 r3 hg2
                        cases hq : (nk == (c0 :: c1 :: t2))
                        · go_wp2_with fail
                          refine wp_region_still_lit (by kernel_rfl) (by kernel_rfl) ?_
                          repeat ((with_reducible refine wpStill_step (fun K hK => ?_)); go_simp; (try go_bits); (with_reducible refine hK _ ?_); clear hK K)
                          refine wpStill_nil ?_
                          go_wp2_with fail
                          go_roundw
                          case rel => exact ⟨k + 1, by go_num, by omega, HBY.out.drew⟩
                          case measure => simp [intOf]; omega
                        · go_wp2_with fail
                          refine wp_region_still_lit (by kernel_rfl) (by kernel_rfl) ?_
                          repeat ((with_reducible refine wpStill_step (fun K hK => ?_)); go_simp; (try go_bits); (with_reducible refine hK _ ?_); clear hK K)
                          refine wpStill_nil ?_
                          go_wp2_with fail
                          go_ret
                          exact ⟨rfl, HBW.out.drew⟩
                      · obtain rfl : k = j := by omega
                        clear hby
                        go_wp2_with fail
                        go_roundw
                        case rel => exact ⟨k + 1, by go_num, by omega, HNX.out HD.out, HBW.out⟩
                        case measure => simp [intOf]; omega
                  · rw [hno] at hsl
                    go_wp2_with (go_at_call 17; refine (CR.out _).mono ?_; rintro e w' ⟨rfl, rfl⟩)
                    go_ret
                    exact ⟨rfl, HBR.out⟩
      · have HALL2 := Lib.hid (show ∀ r ∈ rs, Im.named r.name = true from fun r hr => by
          obtain ⟨m, hm, rfl⟩ := List.mem_iff_getElem.1 hr
          exact HALL.out m hm (by omega))
        have hlt' : ¬ (j : Int) < (rs.length : Int) := by omega
        clear HALL
        have hn20 : rs.length ≤ 20 := by omega
        have h31 : ∀ r ∈ rs, r.name.length ≤ 31 := fun r hr => (Im.named_whole (HALL2.out r hr)).2.2
        have CS := Lib.hid (isource10_any (.slice A rs.length c) rs wr (HH.out.kept HBR.out) hn20 h31)
        obtain ⟨ws, hws⟩ : ∃ ws, rs.map Im.Raw.w = ws := ⟨_, rfl⟩
        have hok : ∀ x ∈ ws, Im.Ok x := fun x hx => by
          rw [← hws] at hx
          obtain ⟨r, hr, rfl⟩ := List.mem_map.1 hx
          exact Im.raw_ok (HALL2.out r hr)
        have hwl : ws.length = rs.length := by rw [← hws, List.length_map]
        have CB := Lib.hid (fun W (hW : Below w.heap.size w W) => ichain_build (HT.out.kept hW) ws hok (by omega))
        have HFI := Lib.hid (fun x hx => (hok x hx).fine)
        have HOK := Lib.hid hok
        rw [hws] at CS
        have HWS := Lib.hid hws
        have HWL := Lib.hid hwl
        have HSL := Lib.hid (Im.symL_len ws 4 [] (by omega))
        have HRES := Lib.hid (Im.chO_eq ws (fun x hx => (hok x hx).fine) (by omega))
        clear hok hws hwl h31
        go_wp2_with fail
        go_at_call 19
        refine CS.out.mono ?_
        rintro e w2 ⟨rfl, hb2⟩
        have HB2 := Lib.hid (HBR.out.trans (hb2.mono HBR.out.size))
        clear hb2
        go_wp2_with fail
        go_at_call 18
        refine (CB.out _ HB2.out).mono ?_
        rintro e w3 ⟨vb, vs, rfl, hrb, hrs, hfb, hfs, hb3⟩
        have HB3 := Lib.hid (HB2.out.trans (hb3.mono HB2.out.size))
        rcases HRES.out with e42 | ⟨hky, eok⟩
        · as_aux_lemma =>
            rw [e42] at hrb hrs ⊢
            dsimp only at hrb hrs ⊢
            obtain ⟨Ab, cb, rfl⟩ := hrb.form
            obtain ⟨As_, cs, rfl⟩ := hrs.form
            have hal : Below w3.heap.size w3 (w3.alloc (.cells #[.slice Ab ([] : List UInt8).length cb, .slice As_ ([] : List (List UInt8 × Nat)).length cs] 45)) := (Below.refl _ _).alloc (Nat.le_refl _) _
            have hbk := Bk.fresh w3 45 #[.slice Ab ([] : List UInt8).length cb, .slice As_ ([] : List (List UInt8 × Nat)).length cs]
            dsimp only [List.length_nil] at hal hbk ⊢
            obtain ⟨w4, hw4⟩ : ∃ w4, w3.alloc (.cells #[.slice Ab 0 cb, .slice As_ 0 cs] 45) = w4 := ⟨_, rfl⟩
            rw [hw4] at hal hbk
            have x0 := hbk.cell 0
            have x1 := hbk.cell 1
            have CA := Lib.hid (iat_any (.slice Ab 0 cb) (.slice As_ 0 cs) [] [104] w4 (hrs.kept hal) (by decide))
            have HB4 := Lib.hid (HB3.out.trans (hal.mono HB3.out.size))
            clear hrb hrs hfb hfs hb3 hal hbk
            go_wp2_with fail
            go_at_call 20
            refine CA.out.mono ?_
            rintro e w5 ⟨rfl, hb5⟩
            go_wp2_with (go_at_call 21; refine (inum10_any _ _).mono ?_; rintro e w' ⟨rfl, rfl⟩)
            go_ret
            exact ⟨rfl, HB4.out.trans (hb5.mono HB4.out.size)⟩
        · rw [eok] at hrb hrs ⊢
          dsimp only at hrb hrs ⊢
          have HIL := Lib.hid (Im.img_len ws HFI.out)
          have HSZ := Lib.hid (Im.szs_le ws HFI.out)
          have HLH := Lib.hid (As.look_of hky (Im.sym_h ws 4 []))
          have HLO := Lib.hid (fun (m : Nat) (hm : m < ws.length) => show As.look (Im.symL 4 [] ws) (Im.own ws[m]) = some (4 + Im.szs (ws.take m) + Im.hsz ws[m]) from As.look_of hky (by
            have := Im.sym_own (ws.take m) ws[m] (ws.drop (m + 1)) 4 []
            rwa [← Im.take_next hm] at this))
          have hsl : (Im.symL 4 [] ws).length ≤ 5000000000 := HSL.out
          generalize Im.symL 4 [] ws = sy at *
          obtain ⟨gb, ob, cb, e, hgb, _⟩ := Im.rd_byte hrb (j := 0) (by rw [HIL.out]; omega)
          subst e
          obtain ⟨As_, cs, rfl⟩ := hrs.form
          have hal : Below w3.heap.size w3 (w3.alloc (.cells #[.slice (some ⟨gb, ob, none⟩) (Im.img ws).length cb, .slice As_ sy.length cs] 45)) := (Below.refl _ _).alloc (Nat.le_refl _) _
          have hbk := Bk.fresh w3 45 #[.slice (some ⟨gb, ob, none⟩) (Im.img ws).length cb, .slice As_ sy.length cs]
          obtain ⟨w4, hw4⟩ : ∃ w4, w3.alloc (.cells #[.slice (some ⟨gb, ob, none⟩) (Im.img ws).length cb, .slice As_ sy.length cs] 45) = w4 := ⟨_, rfl⟩
          rw [hw4] at hal hbk
          have hrb4 := hrb.kept hal
          have HCB := Lib.hid (show (Im.img ws).length ≤ cb ∧ cb ≤ maxLen ∧ (∀ j u, (bv (Im.img ws))[j]? = some u → w4.cell? ⟨gb, ob + j, none⟩ = some u) ∧ gb < w4.heap.size from by
            obtain ⟨_, A', c', e', k2, k3, k4⟩ := hrb4
            injection e' with z1 z2 z3
            subst z3
            obtain ⟨g', off', z4, z5, z6⟩ := k4 (by rw [HIL.out]; omega)
            rw [← z1] at z4
            injection z4 with z4
            injection z4 with z4 z7 _
            subst z4 z7
            exact ⟨k2, k3, z6, z5⟩)
          have x0 := hbk.cell 0
          have x1 := hbk.cell 1
          have HRB := Lib.hid hrb4
          have HBX := Lib.hid (show ∀ W, Below w4.heap.size w4 W → W.cell? ⟨w3.heap.size, 0, none⟩ = some (.slice (some ⟨gb, ob, none⟩) (Im.img ws).length cb) ∧ W.cell? ⟨w3.heap.size, 1, none⟩ = some (.slice As_ sy.length cs) from fun W hW => ⟨(hbk.kept hW).cell 0, (hbk.kept hW).cell 1⟩)
          have CA := Lib.hid (fun W (hW : Below w4.heap.size w4 W) nm => iat_any (.slice (some ⟨gb, ob, none⟩) (Im.img ws).length cb) (.slice As_ sy.length cs) sy nm W ((hrs.kept hal).kept hW) hsl)
          have hlen6 : (Im.img ws).length ≤ 2000 := by rw [HIL.out]; have := HSZ.out; have := HWL.out; omega
          have CW := Lib.hid (fun W (hW : Below w4.heap.size w4 W) a (ha : a < 4294967296) => iword_any (.slice (some ⟨gb, ob, none⟩) (Im.img ws).length cb) (Im.img ws) a W (hrb4.kept hW) (by omega) ha)
          have HB4 := Lib.hid (HB3.out.trans (hal.mono HB3.out.size))
          have HLN := Lib.hid hlen6
          clear hrb hrs hfb hfs hb3 hal hbk hrb4 hlen6 hsl hky
          go_wp2_with fail
          go_at_call 20
          refine (CA.out _ (Below.refl _ _) [104]).mono ?_
          rintro e w5 ⟨rfl, hb5⟩
          rw [HLH.out]
          dsimp only [Option.getD_some, Option.isSome_some]
          have HB5 := Lib.hid hb5
          obtain ⟨hh, hhh⟩ : ∃ hh, 4 + Im.szs ws = hh := ⟨_, rfl⟩
          rw [hhh]
          have HHH := Lib.hid hhh
          clear hb5 x0 x1 hhh hw4
          generalize w3.heap.size = gx at *
          go_wp2_with (go_at_call 21; refine (inum10_any _ _).mono ?_; rintro e w' ⟨rfl, rfl⟩)
          go_loopw [9, 10] (fun s k wy => ∃ kk : Nat, k = .int .i64 (kk : Int) ∧ kk ≤ 32 ∧ s = .int .i64 (Im.cnt (fun q => decide (q < kk)) ws : Int) ∧ Below w4.heap.size w4 wy) (fun _ k _ => 32 - (intOf k).toNat)
          case atStart => exact ⟨0, rfl, Nat.zero_le _, by rw [Im.cnt_none]; rfl, HB5.out⟩
          case round =>
            obtain ⟨kk, rfl, hkk, rfl, hby⟩ := hrel
            have HBY := Lib.hid hby
            clear hby
            by_cases hlk : kk < 32
            · have hlk' : (kk : Int) < 32 := by omega
              have hhb : hh ≤ 1500 := by have := HHH.out; have := HSZ.out; have := HWL.out; omega
              obtain ⟨k4, hk4⟩ : ∃ k4, 4 * kk = k4 := ⟨_, rfl⟩
              obtain ⟨hk, hhk⟩ : ∃ hk, hh + k4 = hk := ⟨_, rfl⟩
              have m1 : IntKind.i64.wrap (4 * (kk : Int)) = (k4 : Int) := by
                have := Im.wrap_nat k4 (by omega)
                rw [← hk4] at this ⊢
                exact this
              have m2 : IntKind.u32.wrap (k4 : Int) = (k4 : Int) := Im.wrap_u32 k4 (by omega)
              have m3 : IntKind.u32.wrap ((hh : Int) + (k4 : Int)) = (hk : Int) := by
                have := Im.wrap_u32 hk (by omega)
                rw [← hhk] at this ⊢
                exact this
              have m4 := Im.wrap_nat (kk + 1) (by omega)
              have m5 : IntKind.i64.wrap ((kk : Int) + 1) = (kk : Int) + 1 := m4
              have m6 : IntKind.i64.wrap ((rs.length : Int) - 1) = (rs.length : Int) - 1 := Im.wrap_dn rs.length (by omega)
              have CWK := Lib.hid (CW.out wr HBY.out hk (by omega))
              have HFST := Lib.hid (show Im.w32 (Im.img ws) hk = Im.laV ws ws.length kk by
                unfold Im.laV
                rw [List.take_length]
                unfold Im.w32
                rw [if_pos (by rw [HIL.out]; have := HHH.out; omega), ← hhk, ← hk4, ← HHH.out]
                exact Im.img_head ws HFI.out (by have := HHH.out; omega) kk hlk)
              obtain ⟨x0, x1⟩ := HBX.out _ HBY.out
              clear hk4 hhk m4 hhb
              go_wp2_with fail
              go_at_call 22
              refine CWK.out.mono ?_
              rintro e w6 ⟨rfl, hb6⟩
              rw [HFST.out]
              have HB6 := Lib.hid (HBY.out.trans (hb6.mono HBY.out.size))
              clear hb6 x0 x1 m1 m2 m3
              go_wp2_with fail
              go_loopw [9, 11, 12] (fun s a i wz => ∃ m : Nat, i = .int .i64 ((m : Int) - 1) ∧ m ≤ rs.length ∧ s = .int .i64 ((Im.seenN ws kk m : Nat) : Int) ∧ a = .int .u32 ((Im.laV ws m kk : Nat) : Int) ∧ Below w4.heap.size w4 wz) (fun _ _ i _ => (intOf i + 1).toNat)
              case atStart => exact ⟨rs.length, rfl, Nat.le_refl _, by rw [Im.seen_full, HWL.out], by rw [HWL.out], HB6.out⟩
              case round =>
                obtain ⟨m, rfl, hm, rfl, rfl, hbz⟩ := hrel
                have HBZ := Lib.hid hbz
                clear hbz
                cases m with
                | zero =>
                  have HSUM := Lib.hid (Im.seen_zero ws kk)
                  have hz := Im.laV_zero ws kk
                  rw [hz, HSUM.out]
                  have e0 : (((0 : Nat) : Int) - 1) = -1 := rfl
                  rw [e0]
                  clear hz e0
                  go_wp2_with fail
                  go_roundw
                  case rel => exact ⟨kk + 1, by go_num, by omega, rfl, HBZ.out⟩
                  case measure => simp [intOf]; omega
                | succ jj =>
                  have e0 : (((jj + 1 : Nat) : Int) - 1) = (jj : Int) := by omega
                  rw [e0]
                  clear e0
                  have hjw : jj < ws.length := by rw [HWL.out]; omega
                  have hjr : jj < rs.length := by omega
                  have hfx := HFI.out _ (List.getElem_mem hjw)
                  have HKY := Lib.hid (Im.laV_next ws jj kk hjw hlk)
                  have HCN := Lib.hid (Im.seen_next ws kk jj hjw)
                  have HSB := Lib.hid (Im.seen_le ws kk (jj + 1))
                  have HXE := Lib.hid (show ws[jj] = rs[jj].w from by
                    have h := HWS.out
                    subst h
                    rw [List.getElem_map])
                  obtain ⟨g, off, c', e, hg, q0, q1, q2, q3⟩ := Im.row_rd (HH.out.kept (HB4.out.trans (HBZ.out.mono HB4.out.size))) hjr
                  injection e with e1 e2 e3
                  subst e1 e3
                  obtain ⟨al, bl, ml, hl1, hl2, hl3, hl4, hl5, hl6, hl7⟩ := Im.mod2 rs[jj].l
                  obtain ⟨nm, hnm⟩ : ∃ a, rs[jj].name = a := ⟨_, rfl⟩
                  obtain ⟨lk, hlkk⟩ : ∃ a, rs[jj].l = a := ⟨_, rfl⟩
                  obtain ⟨hb, hhb⟩ : ∃ hb, Im.bucket nm = hb := ⟨_, rfl⟩
                  have HKE := Lib.hid (show Im.key ws[jj] = ml * 16 + hb by rw [HXE.out, ← hhb, ← hnm, hl6]; rfl)
                  have hb16 : hb < 16 := by rw [← hhb]; unfold Im.bucket; rw [← Nm.foldN_8]; exact Nm.foldN_lt _ _
                  obtain ⟨kq, hkq⟩ : ∃ kq, kk / 16 = kq := ⟨_, rfl⟩
                  obtain ⟨kr, hkr⟩ : ∃ kr, kk % 16 = kr := ⟨_, rfl⟩
                  have t1 : Int.tdiv (kk : Int) 16 = (kq : Int) := by rw [Int.tdiv_eq_ediv_of_nonneg (by omega)]; omega
                  have t2 : Int.tmod (kk : Int) 16 = (kr : Int) := by rw [Int.tmod_eq_emod_of_nonneg (by omega)]; omega
                  have t3 := Im.wrap_nat kq (by omega)
                  have t4 := Im.wrap_nat kr (by omega)
                  have t5 : IntKind.i64.wrap ((jj : Int) - 1) = (jj : Int) - 1 := Im.wrap_dn jj (by omega)
                  have hml : nm.length ≤ maxLen := by rw [← hnm]; exact HX.out _ (List.getElem_mem hjr)
                  have CH := Lib.hid (show ∀ W, Calls Tryz.prog 23 #[.string ⟨nm.toArray⟩] W fun e w' => e = .returned (.int .i64 (hb : Int)) ∧ W = w' from fun W => by
                    have := hash_ref ⟨nm.toArray⟩ W hml
                    rw [← hhb]
                    exact this)
                  have hjr' : (jj : Int) < (rs.length : Int) := by omega
                  rw [hnm] at q0
                  rw [hlkk] at q3 hl1
                  have HNM := Lib.hid hnm
                  have HLKK := Lib.hid hlkk
                  have HHB := Lib.hid hhb
                  have HKQ := Lib.hid hkq
                  have HKR := Lib.hid hkr
                  have HL6 := Lib.hid hl6
                  clear hnm hlkk hhb hkq hkr hl6
                  by_cases hq : ml = kq
                  · subst hq
                    by_cases hr : hb = kr
                    · subst hr
                      have HKK := Lib.hid (show Im.key ws[jj] = kk by rw [HKE.out]; have := HKQ.out; have := HKR.out; omega)
                      obtain ⟨x0, x1⟩ := HBX.out _ HBZ.out
                      have hlv : Im.laV ws (jj + 1) kk = 4 + Im.szs (ws.take jj) := by rw [HKY.out, if_pos HKK.out]
                      rw [hlv]
                      obtain ⟨sn, hsn⟩ : ∃ sn, Im.seenN ws kk (jj + 1) = sn := ⟨_, rfl⟩
                      have hsb : sn ≤ 40 := by have := HSB.out; have := HWL.out; omega
                      have HSN := Lib.hid (show Im.seenN ws kk jj = sn + 1 by rw [HCN.out, if_pos HKK.out, hsn]; omega)
                      rw [hsn]
                      have s1 : IntKind.i64.wrap ((sn : Int) + 1) = (sn : Int) + 1 := Im.wrap_nat (sn + 1) (by omega)
                      have HPA := Lib.hid (Im.szs_split hjw)
                      obtain ⟨ps, hps⟩ : ∃ ps, 4 + Im.szs (ws.take jj) = ps := ⟨_, rfl⟩
                      rw [hps]
                      have hpl : ps + 128 ≤ (Im.img ws).length := by rw [HIL.out, ← hps]; have := HPA.out; omega
                      have hpl2 := HLN.out
                      have u1 := Im.wrap_u64 ps (by omega)
                      have u2 := Im.wrap_u64 (Im.img ws).length (by omega)
                      have u3 : ¬ ((Im.img ws).length : Int) ≤ (ps : Int) := by omega
                      have HPS := Lib.hid hps
                      clear hlv hsn hps
                      have hcb : ¬ cb = ps := by have := HCB.out.1; omega
                      have hcb2 : ¬ cb - ps = 0 := by have := HCB.out.1; omega
                      have hcb3 : (ps : Int) ≤ ((Im.img ws).length : Int) := by omega
                      obtain ⟨af, bf, mf, hf1, hf2, hf3, hf4, hf5, hf6, hf7⟩ := Im.mod16 rs[jj].f
                      obtain ⟨an, bn, mn, hn1, hn2, hn3, hn4, hn5, hn6, hn7⟩ := Im.mod4 rs[jj].n
                      obtain ⟨n4, hn44⟩ : ∃ n4, 4 * mn = n4 := ⟨_, rfl⟩
                      obtain ⟨nl, hnl⟩ : ∃ nl, Nm.lengthN nm.length = nl := ⟨_, rfl⟩
                      obtain ⟨ow, how⟩ : ∃ ow, ps + Im.hsz ws[jj] = ow := ⟨_, rfl⟩
                      have how2 : ow = ps + nl + 4 := by rw [← how, HXE.out]; show ps + (Nm.lengthN rs[jj].name.length + 4) = _; rw [HNM.out, hnl]; omega
                      obtain ⟨lnk, hlnk⟩ : ∃ q, Im.laV ws jj kk = q := ⟨_, rfl⟩
                      have hlp : lnk < ps := by rw [← hlnk, ← HPS.out]; exact Im.link_lt _ _
                      have HRV := Lib.hid (show Nm.readV ((Im.img ws).drop ps) = .tuple #[hv ⟨nm.toArray⟩ (mf : Int) lnk ow n4, .int .i64 (nl : Int), .int .i64 0] from by
                        have hsp := Im.take_next hjw
                        have h := Im.img_read (ws.take jj) ws[jj] (ws.drop (jj + 1)) (fun y hy => HFI.out y (List.mem_of_mem_take hy)) hfx (HOK.out _ (List.getElem_mem hjw)).right (by rw [← HPA.out.2]; have := HIL.out; omega)
                        rw [← hsp, HPS.out, HKK.out, how] at h
                        rw [h]
                        have e1 : ws[jj].name = nm := by rw [HXE.out]; exact HNM.out
                        have e2 : ws[jj].fl = mf := by rw [HXE.out, hf6]; rfl
                        have e3 : ws[jj].n = mn := by rw [HXE.out, hn6]; rfl
                        rw [e1, e2, e3, hnl, hn44]
                        rw [show (Im.laF 4 Im.z32 (ws.take jj)).getD kk 0 = lnk from hlnk])
                      have CRD := Lib.hid (show Calls Tryz.prog 24 #[.slice (some ⟨gb, ob + ps, none⟩) ((Im.img ws).length - ps) (cb - ps)] wr fun e w' => e = .returned (.tuple #[hv ⟨nm.toArray⟩ (mf : Int) lnk ow n4, .int .i64 (nl : Int), .int .i64 0]) ∧ Below wr.heap.size wr w' from by
                        have h := read_own gb (ob + ps) (cb - ps) ((Im.img ws).drop ps) wr (fun q hq => by
                          rw [List.length_drop] at hq
                          rw [HBZ.out.cell (p := ⟨gb, _, none⟩) HCB.out.2.2.2, show ob + ps + q = ob + (ps + q) by omega]
                          refine HCB.out.2.2.1 _ _ ?_
                          unfold bv
                          rw [List.getElem?_map, List.getD_eq_getElem?_getD, List.getElem?_drop, List.getElem?_eq_getElem (show ps + q < (Im.img ws).length by omega)]
                          rfl) (Nat.lt_of_lt_of_le HCB.out.2.2.2 HBZ.out.size) (by rw [List.length_drop]; have := HCB.out.1; omega) (by have := HCB.out.2.1; omega) (by rw [List.length_drop]; omega)
                        rw [HRV.out, List.length_drop] at h
                        exact h)
                      go_wp2_with (go_at_call 23; refine (CH.out _).mono ?_; rintro e w' ⟨rfl, rfl⟩)
                      go_at_call 24
                      refine CRD.out.mono ?_
                      rintro e w6 ⟨rfl, hb6⟩
                      have hpo : ps + nl = ow - 4 := by omega
                      obtain ⟨p2, hp2⟩ : ∃ p2, ps + nl = p2 := ⟨_, rfl⟩
                      have howl : ow + 128 ≤ (Im.img ws).length := by rw [HIL.out, ← how, ← HPS.out]; have := HPA.out.1; have hw : Im.wsz ws[jj] = Im.hsz ws[jj] + 4 * ws[jj].n := rfl; omega
                      have v1 := Im.wrap_u32 nl (by omega)
                      have v2 : IntKind.u32.wrap ((ps : Int) + (nl : Int)) = (p2 : Int) := by
                        have := Im.wrap_u32 p2 (by omega)
                        rw [← hp2] at this ⊢
                        exact this
                      have v3 : IntKind.u32.wrap ((p2 : Int) + 4) = (ow : Int) := by
                        have := Im.wrap_u32 ow (by omega)
                        rw [show ow = p2 + 4 by omega] at this ⊢
                        exact this
                      have v4 : IntKind.u32.wrap ((ow : Int) - 4) = (p2 : Int) := by
                        have := Im.wrap_u32 p2 (by omega)
                        rw [show (ow : Int) - 4 = (p2 : Int) by omega]
                        exact this
                      have v5 : IntKind.i64.wrap (4 * (mn : Int)) = (n4 : Int) := by
                        have := Im.wrap_nat n4 (by omega)
                        rw [← hn44] at this ⊢
                        exact this
                      have v6 := Im.wrap_u32 n4 (by omega)
                      have v7 : ¬ (ps : Int) ≤ (lnk : Int) := by omega
                      have HW2 := Lib.hid (show Im.w32 (Im.img ws) p2 = ps from by
                        unfold Im.w32
                        rw [if_pos (by omega)]
                        have hsp := Im.take_next hjw
                        have h := Im.img_back (ws.take jj) ws[jj] (ws.drop (jj + 1)) (fun y hy => HFI.out y (List.mem_of_mem_take hy)) hfx (by rw [← HPA.out.2]; have := HIL.out; omega)
                        rw [← hsp, HPS.out, show ws[jj].name = nm from by rw [HXE.out]; exact HNM.out, hnl, hp2] at h
                        exact h)
                      have HON := Lib.hid (show Im.label ml nm = Im.own ws[jj] from by rw [HXE.out, HL6.out, ← HNM.out]; rfl)
                      have HLK := Lib.hid (show As.look sy (Im.label ml nm) = some ow from by rw [HON.out, HLO.out jj hjw, HPS.out, how])
                      obtain ⟨w7, hw7⟩ : ∃ w7, w6.alloc (.cells #[.string ⟨nm.toArray⟩, .int .i64 (mf : Int), .int .u32 (lnk : Int), .int .u32 (ow : Int), .int .u32 (n4 : Int)] 55) = w7 := ⟨_, rfl⟩
                      have hal7 : Below w6.heap.size w6 w7 := by rw [← hw7]; exact (Below.refl _ _).alloc (Nat.le_refl _) _
                      have hbk7 : Bk w7 w6.heap.size 55 #[.string ⟨nm.toArray⟩, .int .i64 (mf : Int), .int .u32 (lnk : Int), .int .u32 (ow : Int), .int .u32 (n4 : Int)] := by rw [← hw7]; exact Bk.fresh _ _ _
                      have hz67 : Below wr.heap.size wr w7 := hb6.trans (hal7.mono hb6.size)
                      have HB7 := Lib.hid (HBZ.out.trans (hz67.mono HBZ.out.size))
                      have HF := Lib.hid (show ∀ W', Below w7.heap.size w7 W' → (W'.cell? ⟨gx, 0, none⟩ = some (.slice (some ⟨gb, ob, none⟩) (Im.img ws).length cb) ∧ W'.cell? ⟨gx, 1, none⟩ = some (.slice As_ sy.length cs)) ∧ (W'.cell? ⟨g, off + jj * 4, none⟩ = some (.string ⟨nm.toArray⟩) ∧ W'.cell? ⟨g, off + jj * 4 + 1, none⟩ = some (.int .i64 rs[jj].f) ∧ W'.cell? ⟨g, off + jj * 4 + 2, none⟩ = some (.int .i64 rs[jj].n)) ∧ (W'.cell? ⟨w6.heap.size, 0, none⟩ = some (.string ⟨nm.toArray⟩) ∧ W'.cell? ⟨w6.heap.size, 1, none⟩ = some (.int .i64 (mf : Int)) ∧ W'.cell? ⟨w6.heap.size, 2, none⟩ = some (.int .u32 (lnk : Int)) ∧ W'.cell? ⟨w6.heap.size, 3, none⟩ = some (.int .u32 (ow : Int)) ∧ W'.cell? ⟨w6.heap.size, 4, none⟩ = some (.int .u32 (n4 : Int))) from fun W' hW' => by
                        have hq := hz67.trans (hW'.mono hz67.size)
                        have hk := hbk7.kept hW'
                        exact ⟨HBX.out W' (HB7.out.trans (hW'.mono HB7.out.size)), ⟨(hq.cell (p := ⟨g, _, none⟩) hg).trans q0, (hq.cell (p := ⟨g, _, none⟩) hg).trans q1, (hq.cell (p := ⟨g, _, none⟩) hg).trans q2⟩, hk.cell 0, hk.cell 1, hk.cell 2, hk.cell 3, hk.cell 4⟩)
                      have CL := Lib.hid (fun W => ilabel_any ml nm W (by omega) (Nat.le_trans (show nm.length ≤ 31 by rw [← HNM.out]; exact (Im.named_whole (HALL2.out _ (List.getElem_mem hjr))).2.2) (by decide)))
                      have CAT := Lib.hid (show ∀ W', Below w7.heap.size w7 W' → Calls Tryz.prog 20 #[.agg #[.slice (some ⟨gb, ob, none⟩) (Im.img ws).length cb, .slice As_ sy.length cs], .string ⟨(Im.label ml nm).toArray⟩] W' fun e w' => e = .returned (.tuple #[.int .u32 (ow : Int), .bool true]) ∧ Below W'.heap.size W' w' from fun W' hW' => by
                        have := CA.out W' (HB7.out.trans (hW'.mono HB7.out.size)) (Im.label ml nm)
                        rw [HLK.out] at this
                        exact this)
                      have CWW := Lib.hid (show ∀ W', Below w7.heap.size w7 W' → Calls Tryz.prog 22 #[.slice (some ⟨gb, ob, none⟩) (Im.img ws).length cb, .int .u32 (p2 : Int)] W' fun e w' => e = .returned (.int .u32 (ps : Int)) ∧ Below W'.heap.size W' w' from fun W' hW' => by
                        have := CW.out W' (HB7.out.trans (hW'.mono HB7.out.size)) p2 (by omega)
                        rw [HW2.out] at this
                        exact this)
                      generalize Im.label ml nm = lb at *
                      generalize rs[jj].f = rf at *
                      generalize rs[jj].n = rn at *
                      have HLN4 := Lib.hid hlnk
                      clear hf6 hn6 hp2 hn44 hpo howl hnl how how2 hlnk hb6 hal7 hbk7 hz67 x0 x1 q0 q1 q2 q3 u1 u2 u3 hcb hcb2 hcb3 hlp
                      go_wp2_with fail
                      clear hw7
                      generalize w6.heap.size = gh at *
                      try clear CA
                      try clear CW
                      try clear HX
                      try clear HT
                      try clear CK
                      try clear HH
                      try clear HNL
                      try clear HB1
                      try clear HBR
                      try clear HALL2
                      try clear CS
                      try clear CB
                      try clear HFI
                      try clear HOK
                      try clear HWS
                      try clear HWL
                      try clear HSL
                      try clear HRES
                      try clear HB2
                      try clear HB3
                      try clear HIL
                      try clear HSZ
                      try clear HLH
                      try clear HLO
                      try clear HRB
                      try clear HBX
                      try clear HLN
                      try clear HCB
                      try clear HB5
                      try clear HHH
                      try clear HBY
                      try clear CWK
                      try clear HFST
                      try clear HB6
                      try clear HKY
                      try clear HCN
                      try clear HSB
                      try clear HXE
                      try clear HKE
                      try clear CH
                      try clear HNM
                      try clear HLKK
                      try clear HHB
                      try clear HKQ
                      try clear HKR
                      try clear HL6
                      try clear HKK
                      try clear HPA
                      try clear HPS
                      try clear HRV
                      try clear CRD
                      try clear HW2
                      try clear HON
                      try clear HLK
                      try clear hpl
                      try clear hpl2
                      try clear hml
                      try clear hb16
                      try clear hfx
                      try clear hn20
                      try clear hn'
                      try clear hlt
                      try clear hlt'
                      try clear hn
                      try clear hl7
                      try clear hf7
                      try clear hn7
                      try clear hrest
                      try clear m5
                      try clear m6
                      try clear t2
                      try clear t4
                      as_aux_lemma =>
                        refine Kit.wp_region_class (fun W' => Below w7.heap.size w7 W') (by kernel_rfl) (by kernel_rfl) ((Below.refl _ _).drew) ?_
                        repeat (first | go_big_quiet_skip | (refine BigFrame.wpQuiet_want (by rfl) (fun K hK => ?_); first | ((fail_if_success (fail_if_success (first | (refine BigFrame.quiet_move _ rfl ?_) | (refine BigFrame.quiet_assign _ rfl ?_)))); go_big_quiet_op; refine hK _ ?_; clear hK K) | (apply Exists.intro; refine ⟨fun W' hW' => ?_, hK _ ?_⟩; (obtain ⟨⟨y0, y1⟩, ⟨y2, y3, y4⟩, z0, z1, z2, z3, z4⟩ := HF.out W' hW'; unfold Oper.quietAt; go_simp; (first | done | (with_reducible rfl) | (exact ⟨rfl, rfl⟩) | (first | (go_at_call 25; exact callB (CL.out _) hW' (Nat.le_refl _)) | (go_at_call 20; exact callB (CAT.out W' hW') hW' (Nat.le_refl _)) | (go_at_call 22; exact callB (CWW.out W' hW') hW' (Nat.le_refl _)) | (go_at_call 21; exact callS (inum10_any _ W') hW') | (refine ⟨rfl, ?_⟩; (first | (go_at_call 25; exact callB (CL.out _) hW' (Nat.le_refl _)) | (go_at_call 20; exact callB (CAT.out W' hW') hW' (Nat.le_refl _)) | (go_at_call 22; exact callB (CWW.out W' hW') hW' (Nat.le_refl _)) | (go_at_call 21; exact callS (inum10_any _ W') hW')))))); clear hK K; (try simp only [Act.put, List.getElem_toArray, List.getElem_cons_zero, List.getElem_cons_succ, List.setIfInBounds_toArray, List.set_cons_zero, List.set_cons_succ]))))
                        refine wpQuiet_nil ?_
                        intro w8 hb8
                        have HB8 := Lib.hid hb8
                        have HF8 := Lib.hid (fun W' (hW' : Below w8.heap.size w8 W') => HF.out W' (HB8.out.trans (hW'.mono HB8.out.size)))
                        have CWW8 := Lib.hid (fun W' (hW' : Below w8.heap.size w8 W') => CWW.out W' (HB8.out.trans (hW'.mono HB8.out.size)))
                        clear hb8
                        go_wp2_with fail
                        as_aux_lemma =>
                          refine Kit.wp_region_class (fun W' => Below w8.heap.size w8 W') (by kernel_rfl) (by kernel_rfl) ((Below.refl _ _).drew) ?_
                          repeat (first | go_big_quiet_skip | (refine BigFrame.wpQuiet_want (by rfl) (fun K hK => ?_); first | ((fail_if_success (fail_if_success (first | (refine BigFrame.quiet_move _ rfl ?_) | (refine BigFrame.quiet_assign _ rfl ?_)))); go_big_quiet_op; refine hK _ ?_; clear hK K) | (apply Exists.intro; refine ⟨fun W' hW' => ?_, hK _ ?_⟩; (obtain ⟨⟨y0, y1⟩, ⟨y2, y3, y4⟩, z0, z1, z2, z3, z4⟩ := HF8.out W' hW'; unfold Oper.quietAt; go_simp; (first | done | (with_reducible rfl) | (exact ⟨rfl, rfl⟩) | (first | (go_at_call 22; exact callB (CWW8.out W' hW') hW' (Nat.le_refl _)) | (go_at_call 21; exact callS (inum10_any _ W') hW') | (refine ⟨rfl, ?_⟩; (first | (go_at_call 22; exact callB (CWW8.out W' hW') hW' (Nat.le_refl _)) | (go_at_call 21; exact callS (inum10_any _ W') hW')))))); clear hK K; (try simp only [Act.put, List.getElem_toArray, List.getElem_cons_zero, List.getElem_cons_succ, List.setIfInBounds_toArray, List.set_cons_zero, List.set_cons_succ]))))
                          refine wpQuiet_nil ?_
                          intro w9 hb9
                          have HB9 := Lib.hid hb9
                          obtain ⟨⟨y0, y1⟩, ⟨y2, y3, y4⟩, z0, z1, z2, z3, z4⟩ := HF8.out w9 hb9
                          have HBE := Lib.hid (HB7.out.trans ((HB8.out.trans (hb9.mono HB8.out.size)).mono HB7.out.size))
                          clear hb9 y0 y1 y2 y3 y4 z0 z1 z3 z4
                          go_wp2_with fail
                          go_roundw
                          case rel => exact ⟨jj, rfl, by omega, by rw [HSN.out]; rfl, by rw [HLN4.out], HBE.out⟩
                          case measure => first | (simp [intOf]; done) | (simp [intOf]; omega)
                    · have hne : ((hb : Int) != (kr : Int)) = true := by rw [bne_iff_ne]; omega
                      have HKK := Lib.hid (show Im.key ws[jj] ≠ kk by rw [HKE.out]; have := HKQ.out; have := HKR.out; omega)
                      go_wp2_with (go_at_call 23; refine (CH.out _).mono ?_; rintro e w' ⟨rfl, rfl⟩)
                      go_roundw
                      case rel => exact ⟨jj, rfl, by omega, by rw [HCN.out, if_neg HKK.out, Nat.zero_add], by rw [HKY.out, if_neg HKK.out], HBZ.out⟩
                      case measure => first | (simp [intOf]; done) | (simp [intOf]; omega)
                  · have hne : ((ml : Int) != (kq : Int)) = true := by rw [bne_iff_ne]; omega
                    have HKK := Lib.hid (show Im.key ws[jj] ≠ kk by rw [HKE.out]; have := HKQ.out; have := HKR.out; omega)
                    go_wp2_with fail
                    go_roundw
                    case rel => exact ⟨jj, rfl, by omega, by rw [HCN.out, if_neg HKK.out, Nat.zero_add], by rw [HKY.out, if_neg HKK.out], HBZ.out⟩
                    case measure => first | (simp [intOf]; done) | (simp [intOf]; omega)
            · obtain rfl : kk = 32 := by omega
              have hall := Im.cnt_all ws HFI.out
              rw [hall, HWL.out]
              clear hall
              go_wp2_with fail
              go_ret
              exact ⟨rfl, HB4.out.trans (HBY.out.mono HB4.out.size)⟩
end Go.Proofs.YtpcpaoeajcjoiaaGreatDoor
