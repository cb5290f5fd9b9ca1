/- cross.text. -/
import Derived.Test.YtfafdkbnmfpbmaaDoorXcTxt
import Derived.Test.YtfafdkbnmfpbmaaDoorL6Num3
namespace Go.Proofs.YtfafdkbnmfpbmaaDoor
open Go.RowKit Kit
set_option linter.unusedVariables false
set_option linter.unusedSimpArgs false

theorem Xc.Ws.at {R : Value → List (List UInt8) → Prop} : ∀ {ws : List Xc.W} {cs : List Value} (k : Nat), Xc.Ws R ws cs → (hk : k < ws.length) →
    ∃ vl, cs[k * 3]? = some (.string ⟨ws[k].first.toArray⟩) ∧ cs[k * 3 + 1]? = some (.int .i64 (ws[k].flags : Int)) ∧ cs[k * 3 + 2]? = some vl ∧ R vl ws[k].lines
  | [], _, _, _, hk => absurd hk (Nat.not_lt_zero _)
  | x :: t, cs, 0, ⟨vl, r, e, h1, h2⟩, _ => by subst e; exact ⟨vl, rfl, rfl, rfl, h1⟩
  | x :: t, cs, k + 1, ⟨vl, r, e, h1, h2⟩, hk => by
    subst e
    obtain ⟨v2, e0, e1, e2, hr⟩ := Xc.Ws.at k h2 (Nat.lt_of_succ_lt_succ hk)
    have hm : (k + 1) * 3 = k * 3 + 3 := by omega
    refine ⟨v2, ?_, ?_, ?_, hr⟩
    · rw [hm]; exact e0
    · rw [hm]; exact e1
    · rw [hm]; exact e2
/-- v reads as these words. -/
def RdW (w : World) (v : Value) (ws : List Xc.W) : Prop := ∃ cs, Rd w 3 v ws.length cs ∧ Xc.Ws (RdS w) ws cs
theorem RdW.at {w : World} {v : Value} {ws : List Xc.W} (h : RdW w v ws) {k : Nat} (hk : k < ws.length) : ∃ g off c vl, v = .slice (some ⟨g, off, none⟩) ws.length c ∧ g < w.heap.size ∧
    w.cell? ⟨g, off + k * 3, none⟩ = some (.string ⟨ws[k].first.toArray⟩) ∧ w.cell? ⟨g, off + k * 3 + 1, none⟩ = some (.int .i64 (ws[k].flags : Int)) ∧ w.cell? ⟨g, off + k * 3 + 2, none⟩ = some vl ∧ RdS w vl ws[k].lines := by
  obtain ⟨cs, ⟨hl, A, c, rfl, h2, h3, h4⟩, hr⟩ := h
  obtain ⟨g, off, rfl, hg, hc⟩ := h4 (by omega)
  obtain ⟨vl, e0, e1, e2, r1⟩ := hr.at k hk
  exact ⟨g, off, c, vl, rfl, hg, hc _ _ e0, hc _ _ e1, hc _ _ e2, r1⟩
theorem RdW.len {w : World} {v : Value} {ws : List Xc.W} (h : RdW w v ws) : ∃ A c, v = .slice A ws.length c := by
  obtain ⟨cs, h1, _⟩ := h
  exact h1.form
theorem Xc.take_snoc {ws : List Xc.W} {k : Nat} (h : k < ws.length) : ws.take (k + 1) = ws.take k ++ [ws[k]] := by
  rw [List.take_add_one, List.getElem?_eq_getElem h]; rfl
theorem Xc.lines_snoc {ls : List (List UInt8)} {j : Nat} (h : j < ls.length) : (ls.take (j + 1)).flatMap (fun l => l ++ [10]) = ((ls.take j).flatMap (fun l => l ++ [10]) ++ ls.getD j []) ++ [10] := by
  rw [List.take_add_one, List.getElem?_eq_getElem h, List.flatMap_append, List.getD, List.getElem?_eq_getElem h]
  simp
theorem Xc.lines_take (ls : List (List UInt8)) (j : Nat) : ((ls.take j).flatMap (fun l => l ++ [10])).length ≤ Xc.lsum ls := by
  rw [Xc.lines_len]
  conv => rhs; rw [← List.take_append_drop j ls, Xc.lsum_app]
  omega
theorem Xc.text_take {ws : List Xc.W} (h : ∀ x ∈ ws, x.flags < 8) (k : Nat) : (Xc.text (ws.take k)).length ≤ Xc.weight ws := by
  have h1 := Xc.text_len (ws := ws.take k) fun x hx => h x (List.mem_of_mem_take hx)
  have h2 : Xc.weight ws = Xc.weight (ws.take k) + Xc.weight (ws.drop k) := by rw [← Xc.weight_app, List.take_append_drop]
  omega
theorem tx_up {w : World} {base base' : Nat} {e : TypeId} {size : Nat} {v : Value} {n : Nat} {xs : List Value} (h : w.ownsRow base e size v n xs) (hk : ∀ k, v.ownBlock = some k → base' ≤ k) : w.ownsRow base' e size v n xs := by
  obtain ⟨h1, h2⟩ := h
  refine ⟨h1, ?_⟩
  rcases h2 with h2 | ⟨g, cap, cur, rfl, hb', rest⟩
  · exact .inl h2
  · exact .inr ⟨g, cap, cur, rfl, hk g rfl, rest⟩
theorem TxO.bdw {w W : World} {b : Nat} {l : List UInt8} (h : TxO w b l W) : Bd w.heap.size b l W := by
  obtain ⟨⟨F, h1, h3⟩, h4⟩ := h
  have hB := h3 _ h1.2.1
  obtain ⟨⟨p, v, hp, hb, ho, hk⟩, hF, hs⟩ := h1
  have hne : v.ownBlock ≠ some b := own_bk_ne ho hb (by decide)
  have ho' : W.ownsRow w.heap.size 5 1 v (bv l).length (bv l) := by rw [bv_length]; exact tx_up ho (fun k e => h3 k (hk k e))
  rcases hp with rfl | rfl
  · exact .inl ⟨hB, v, hb, ho', hne⟩
  · exact .inr ⟨hB, v, hb, ho', hne⟩
set_option maxRecDepth 100000 in
set_option maxHeartbeats 4000000 in
/-- The text of the words. -/
theorem xtext_any (v : Value) (ws : List Xc.W) (w : World) (h : RdW w v ws) (hwt : Xc.weight ws ≤ 200000000) (hfl : ∀ x ∈ ws, x.flags < 8) :
    Calls Tryd.prog 46 #[v] w fun e w' => e = .returned (.string ⟨(Xc.text ws).toArray⟩) ∧ Below w.heap.size w w' := by
  obtain ⟨A, c, rfl⟩ := h.len
  have HH := Lib.hid h
  have HW := Lib.hid hwt
  have HFL := Lib.hid hfl
  have HLL := Lib.hid (show ws.length ≤ 200000000 from Nat.le_trans (Xc.weight_len ws) hwt)
  have HS := Lib.hid (TxO.start w)
  clear h hwt hfl
  go_enter Tryd.func46, Tryd.ntmps46
  go_wp2_with fail
  go_loopw [10] (fun i wi => ∃ k : Nat, i = .int .i64 (k : Int) ∧ k ≤ ws.length ∧ TxO w w.heap.size (Xc.text (ws.take k)) wi) (fun i _ => ws.length - (intOf i).toNat)
  case atStart => exact ⟨0, rfl, Nat.zero_le _, HS.out⟩
  case round =>
    obtain ⟨k, rfl, hk, htx⟩ := hrel
    have HTX := Lib.hid htx
    clear htx
    by_cases hlt : k < ws.length
    · have hlt' : (k : Int) < (ws.length : Int) := by omega
      have hw1 : IntKind.i64.wrap ((k : Int) + 1) = (k : Int) + 1 := by have := HLL.out; rw [IntKind.wrap_i64]; omega
      obtain ⟨g, off, c', vl, e, hg, c0, c1, c2, r1⟩ := HH.out.at hlt
      injection e with e1 e2 e3
      subst e1 e3
      have HX := Lib.hid (show Xc.text (ws.take (k + 1)) = Xc.text (ws.take k) ++ Xc.textW ws[k] from by rw [Xc.take_snoc hlt, Xc.text_snoc])
      have HXL := Lib.hid (Nat.le_trans (Xc.weight_mem (List.getElem_mem hlt)) HW.out)
      have HF := Lib.hid (HFL.out _ (List.getElem_mem hlt))
      have HTL := Lib.hid (Nat.le_trans (Xc.text_take HFL.out k) HW.out)
      have HLT := Lib.hid hlt
      have q0 := (HTX.out.2.cell (p := ⟨g, off + k * 3, none⟩) hg).trans c0
      have q1 := (HTX.out.2.cell (p := ⟨g, off + k * 3 + 1, none⟩) hg).trans c1
      have q2 := (HTX.out.2.cell (p := ⟨g, off + k * 3 + 2, none⟩) hg).trans c2
      have HR1 := Lib.hid r1
      clear c0 c1 c2 r1
      generalize hX : ws[k] = X at *
      clear hX
      obtain ⟨f, n, ls⟩ := X
      dsimp only at HR1 q0 q1
      obtain ⟨B, cc, rfl⟩ := HR1.out.form
      have HG := Lib.hid (HTX.out.enter #[.string ⟨f.toArray⟩, .int .i64 (n : Int), .slice B ls.length cc])
      generalize hl0 : Xc.text (ws.take k) = l0 at *
      by_cases hf : f = []
      · subst hf
        go_wp2_with fail
        have HLE := Lib.hid (show ls.length ≤ 200000000 from Nat.le_trans (Xc.lsum_len ls) (by have := HXL.out; unfold Xc.wt at this; simp only at this; omega))
        have HLS := Lib.hid (show Xc.lsum ls ≤ 200000000 from by have := HXL.out; unfold Xc.wt at this; simp only at this; omega)
        go_loopw [32] (fun i wi => ∃ j : Nat, i = .int .i64 (j : Int) ∧ j ≤ ls.length ∧ TxG w w.heap.size wr.heap.size #[.string ⟨#[]⟩, .int .i64 (n : Int), .slice B ls.length cc] (l0 ++ (ls.take j).flatMap fun l => l ++ [10]) wi) (fun i _ => ls.length - (intOf i).toNat)
        case atStart => exact ⟨0, rfl, Nat.zero_le _, by rw [List.take_zero, List.flatMap_nil, List.append_nil]; exact HG.out⟩
        case round =>
          obtain ⟨j, rfl, hj, htg⟩ := hrel
          have HTG := Lib.hid htg
          clear htg
          by_cases hjl : j < ls.length
          · have hjl' : (j : Int) < (ls.length : Int) := by omega
            have hwj : IntKind.i64.wrap ((j : Int) + 1) = (j : Int) + 1 := by have := HLE.out; rw [IntKind.wrap_i64]; omega
            obtain ⟨g2, o2, k2, e2, hg2, hc2⟩ := HR1.out.at hjl
            injection e2 with e21 e22 e23
            subst e21 e23
            have hcr := (HTG.out.blo.cell (p := ⟨g2, o2 + j, none⟩) hg2).trans hc2
            have HJL := Lib.hid hjl
            have HSN := Lib.hid (Xc.lines_snoc hjl)
            have HLT2 := Lib.hid (Nat.le_trans (Xc.lines_take ls j) HLS.out)
            have HYL := Lib.hid (show (ls.getD j []).length ≤ 200000000 from Nat.le_trans (Xc.lsum_mem (by rw [List.getD, List.getElem?_eq_getElem hjl]; exact List.getElem_mem hjl)) HLS.out)
            clear hc2
            generalize ls.getD j [] = y at *
            have CW := Lib.hid (HTG.out.write y (by have h1 := HTL.out; have h2 := HLT2.out; have h3 := HYL.out; rw [List.length_append]; omega))
            have CB := Lib.hid (fun W (GG : Nat) (h : TxG w w.heap.size GG #[.string ⟨#[]⟩, .int .i64 (n : Int), .slice (some ⟨g2, o2, none⟩) ls.length cc] ((l0 ++ (ls.take j).flatMap fun l => l ++ [10]) ++ y) W) => h.byte 10 (by have h1 := HTL.out; have h2 := HLT2.out; have h3 := HYL.out; rw [List.length_append, List.length_append]; omega))
            go_wp2_with (first | (go_at_call 57; refine CW.out.mono ?_; rintro e w1 ⟨rfl, h1⟩; have H1 := Lib.hid h1; clear h1) | (go_at_call 59; refine (CB.out _ _ H1.out).mono ?_; rintro e w2 ⟨rfl, h2⟩; have H2 := Lib.hid h2; clear h2))
            go_roundw
            case rel => exact ⟨j + 1, by simp, HJL.out, by rw [HSN.out, ← List.append_assoc, ← List.append_assoc]; exact H2.out⟩
            case measure => have := HJL.out; simp [intOf]; omega
          · obtain rfl : j = ls.length := by omega
            have HTK := Lib.hid (show ls.take ls.length = ls from List.take_of_length_le (Nat.le_refl _))
            go_wp2_with fail
            go_roundw
            case rel => exact ⟨k + 1, by simp, HLT.out, by rw [HX.out]; have := HTG.out.out; rw [HTK.out] at this; simpa [Xc.textW] using this⟩
            case measure => have := HLT.out; simp [intOf]; omega
      · have hne : (f == ([] : List UInt8)) = false := by simpa using hf
        have HNE := Lib.hid hf
        have HFN := Lib.hid (show f.length ≤ 200000000 from by have := HXL.out; unfold Xc.wt at this; simp only at this; omega)
        have CW := Lib.hid (HG.out.write f (by have h1 := HTL.out; have h2 := HFN.out; omega))
        have CP0 := Lib.hid (fun W => Tryd.strings_HasPrefix ⟨f.toArray⟩ ⟨#[100, 101, 102, 32]⟩ W)
        clear hf
        cases hp : Lib.hasPrefix f Xc.lDef
        · have CP := Lib.hid (fun W => (CP0.out W).mono (R' := fun e w' => e = .returned (.bool _) ∧ W = w') (fun e w' h => ⟨h.1.trans (congrArg (fun x => Ending.returned (.bool x)) hp), h.2.symm⟩))
          have HP := Lib.hid hp
          clear hp
          have CB0 := Lib.hid (fun W (GG : Nat) cs (h : TxG w w.heap.size GG cs (l0 ++ f) W) => h.byte 10 (by have h1 := HTL.out; have h2 := HFN.out; rw [List.length_append]; omega))
          go_wp2_with (first | (go_at_call 57; refine CW.out.mono ?_; rintro e w1 ⟨rfl, h1⟩; have p0 := h1.box.cell 0; have p1 := h1.box.cell 1; have p2 := h1.box.cell 2; have H1 := Lib.hid h1; clear h1) | (go_at_call 35; refine (CP.out _).mono ?_; rintro e w' ⟨rfl, rfl⟩) | (go_at_call 59; refine (CB0.out _ _ _ H1.out).mono ?_; rintro e w2 ⟨rfl, h2⟩; have p0 := h2.box.cell 0; have p1 := h2.box.cell 1; have p2 := h2.box.cell 2; have H2 := Lib.hid h2; clear h2))
          have HTL2 := Lib.hid (show ((l0 ++ f) ++ [10]).length ≤ 500000000 from by have h1 := HTL.out; have h2 := HFN.out; rw [List.length_append, List.length_append, List.length_singleton]; omega)
          generalize hl1 : (l0 ++ f) ++ [10] = l1 at *
          have HLE := Lib.hid (show ls.length ≤ 200000000 from Nat.le_trans (Xc.lsum_len ls) (by have := HXL.out; unfold Xc.wt at this; simp only at this; omega))
          have HLS := Lib.hid (show Xc.lsum ls ≤ 200000000 from by have := HXL.out; unfold Xc.wt at this; simp only at this; omega)
          go_loopw [32] (fun i wi => ∃ j : Nat, i = .int .i64 (j : Int) ∧ j ≤ ls.length ∧ TxG w w.heap.size wr.heap.size #[.string ⟨f.toArray⟩, .int .i64 (n : Int), .slice B ls.length cc] (l1 ++ (ls.take j).flatMap fun l => l ++ [10]) wi) (fun i _ => ls.length - (intOf i).toNat)
          case atStart => exact ⟨0, rfl, Nat.zero_le _, by rw [List.take_zero, List.flatMap_nil, List.append_nil]; exact H2.out⟩
          case round =>
            obtain ⟨j, rfl, hj, htg⟩ := hrel
            have HTG := Lib.hid htg
            clear htg
            by_cases hjl : j < ls.length
            · have hjl' : (j : Int) < (ls.length : Int) := by omega
              have hwj : IntKind.i64.wrap ((j : Int) + 1) = (j : Int) + 1 := by have := HLE.out; rw [IntKind.wrap_i64]; omega
              obtain ⟨g2, o2, k2, e2, hg2, hc2⟩ := HR1.out.at hjl
              injection e2 with e21 e22 e23
              subst e21 e23
              have hcr := (HTG.out.blo.cell (p := ⟨g2, o2 + j, none⟩) hg2).trans hc2
              have HJL := Lib.hid hjl
              have HSN := Lib.hid (Xc.lines_snoc hjl)
              have HLT2 := Lib.hid (Nat.le_trans (Xc.lines_take ls j) HLS.out)
              have HYL := Lib.hid (show (ls.getD j []).length ≤ 200000000 from Nat.le_trans (Xc.lsum_mem (by rw [List.getD, List.getElem?_eq_getElem hjl]; exact List.getElem_mem hjl)) HLS.out)
              clear hc2
              generalize ls.getD j [] = y at *
              have CW := Lib.hid (HTG.out.write y (by have h1 := HTL2.out; have h2 := HLT2.out; have h3 := HYL.out; rw [List.length_append]; omega))
              have CB := Lib.hid (fun W (GG : Nat) (h : TxG w w.heap.size GG #[.string ⟨f.toArray⟩, .int .i64 (n : Int), .slice (some ⟨g2, o2, none⟩) ls.length cc] ((l1 ++ (ls.take j).flatMap fun l => l ++ [10]) ++ y) W) => h.byte 10 (by have h1 := HTL2.out; have h2 := HLT2.out; have h3 := HYL.out; rw [List.length_append, List.length_append]; omega))
              go_wp2_with (first | (go_at_call 57; refine CW.out.mono ?_; rintro e w1 ⟨rfl, h1⟩; have H1 := Lib.hid h1; clear h1) | (go_at_call 59; refine (CB.out _ _ H1.out).mono ?_; rintro e w2 ⟨rfl, h2⟩; have H2 := Lib.hid h2; clear h2))
              go_roundw
              case rel => exact ⟨j + 1, by simp, HJL.out, by rw [HSN.out, ← List.append_assoc, ← List.append_assoc]; exact H2.out⟩
              case measure => have := HJL.out; simp [intOf]; omega
            · obtain rfl : j = ls.length := by omega
              have HTK := Lib.hid (show ls.take ls.length = ls from List.take_of_length_le (Nat.le_refl _))
              go_wp2_with fail
              go_roundw
              case rel => exact ⟨k + 1, by simp, HLT.out, by rw [HX.out]; have := HTG.out.out; rw [HTK.out] at this; subst hl1; simpa [Xc.textW, HNE.out, HP.out] using this⟩
              case measure => have := HLT.out; simp [intOf]; omega
        · have CP := Lib.hid (fun W => (CP0.out W).mono (R' := fun e w' => e = .returned (.bool _) ∧ W = w') (fun e w' h => ⟨h.1.trans (congrArg (fun x => Ending.returned (.bool x)) hp), h.2.symm⟩))
          have HP := Lib.hid hp
          clear hp
          have HN8 := Lib.hid (show n < 8 from HF.out)
          have HD := Lib.hid (Xc.flags_one HN8.out)
          have CI := Lib.hid (fun W => litoa_any n W (by have := HN8.out; omega) (.inl (by have := HN8.out; omega)))
          have hcat : ¬ 9223372036854775807 < 1 + (Lib.decDigits n).length := by have := HD.out; omega
          generalize hDD : Lib.decDigits n = D at *
          have CW2 := Lib.hid (fun W (GG : Nat) cs (h : TxG w w.heap.size GG cs (l0 ++ f) W) => show Calls Tryd.prog 57 #[.pointer (some ⟨w.heap.size, 0, none⟩), .string ((⟨#[32]⟩ : ByteArray) ++ (⟨D.toArray⟩ : ByteArray))] W fun e w' => e = .returned (.tuple #[.int .i64 ([32] ++ D).length, .nilIface]) ∧ TxG w w.heap.size GG cs ((l0 ++ f) ++ ([32] ++ D)) w' from by
            rw [show (⟨#[32]⟩ : ByteArray) ++ (⟨D.toArray⟩ : ByteArray) = ⟨([32] ++ D).toArray⟩ from app_eq [32] D]
            exact h.write ([32] ++ D) (by have h1 := HTL.out; have h2 := HFN.out; have h3 := HD.out; rw [List.length_append, List.length_append, List.length_singleton]; omega))
          have CB0 := Lib.hid (fun W (GG : Nat) cs (h : TxG w w.heap.size GG cs ((l0 ++ f) ++ ([32] ++ D)) W) => h.byte 10 (by have h1 := HTL.out; have h2 := HFN.out; have h3 := HD.out; rw [List.length_append, List.length_append, List.length_append, List.length_singleton]; omega))
          go_wp2_with (go_at_call 57; with_reducible refine CW.out.mono ?_; rintro e w1 ⟨rfl, h1⟩; have p0 := h1.box.cell 0; have p1 := h1.box.cell 1; have p2 := h1.box.cell 2; have H1 := Lib.hid h1; clear h1)
          go_wp2_with (go_at_call 35; refine (CP.out _).mono ?_; rintro e w' ⟨rfl, rfl⟩)
          go_wp2_with (go_at_call 83; refine (CI.out _).mono ?_; rintro e w3 ⟨rfl, hb3⟩; have H2 := Lib.hid (H1.out.kept hb3); have p0 := H2.out.box.cell 0; have p1 := H2.out.box.cell 1; have p2 := H2.out.box.cell 2; clear hb3)
          go_wp2_with (go_at_call 57; with_reducible refine (CW2.out _ _ _ H2.out).mono ?_; rintro e w4 ⟨rfl, h4⟩; have p0 := h4.box.cell 0; have p1 := h4.box.cell 1; have p2 := h4.box.cell 2; have H3 := Lib.hid h4; clear h4)
          go_wp2_with (go_at_call 59; refine (CB0.out _ _ _ H3.out).mono ?_; rintro e w2 ⟨rfl, h2⟩; have p0 := h2.box.cell 0; have p1 := h2.box.cell 1; have p2 := h2.box.cell 2; have H5 := Lib.hid h2; clear h2)
          have HTL2 := Lib.hid (show (((l0 ++ f) ++ ([32] ++ D)) ++ [10]).length ≤ 500000000 from by have h1 := HTL.out; have h2 := HFN.out; have h3 := HD.out; rw [List.length_append, List.length_append, List.length_append, List.length_append, List.length_singleton, List.length_singleton]; omega)
          generalize hl1 : ((l0 ++ f) ++ ([32] ++ D)) ++ [10] = l1 at *
          have HLE := Lib.hid (show ls.length ≤ 200000000 from Nat.le_trans (Xc.lsum_len ls) (by have := HXL.out; unfold Xc.wt at this; simp only at this; omega))
          have HLS := Lib.hid (show Xc.lsum ls ≤ 200000000 from by have := HXL.out; unfold Xc.wt at this; simp only at this; omega)
          go_loopw [32] (fun i wi => ∃ j : Nat, i = .int .i64 (j : Int) ∧ j ≤ ls.length ∧ TxG w w.heap.size wr.heap.size #[.string ⟨f.toArray⟩, .int .i64 (n : Int), .slice B ls.length cc] (l1 ++ (ls.take j).flatMap fun l => l ++ [10]) wi) (fun i _ => ls.length - (intOf i).toNat)
          case atStart => exact ⟨0, rfl, Nat.zero_le _, by rw [List.take_zero, List.flatMap_nil, List.append_nil]; exact H5.out⟩
          case round =>
            obtain ⟨j, rfl, hj, htg⟩ := hrel
            have HTG := Lib.hid htg
            clear htg
            by_cases hjl : j < ls.length
            · have hjl' : (j : Int) < (ls.length : Int) := by omega
              have hwj : IntKind.i64.wrap ((j : Int) + 1) = (j : Int) + 1 := by have := HLE.out; rw [IntKind.wrap_i64]; omega
              obtain ⟨g2, o2, k2, e2, hg2, hc2⟩ := HR1.out.at hjl
              injection e2 with e21 e22 e23
              subst e21 e23
              have hcr := (HTG.out.blo.cell (p := ⟨g2, o2 + j, none⟩) hg2).trans hc2
              have HJL := Lib.hid hjl
              have HSN := Lib.hid (Xc.lines_snoc hjl)
              have HLT2 := Lib.hid (Nat.le_trans (Xc.lines_take ls j) HLS.out)
              have HYL := Lib.hid (show (ls.getD j []).length ≤ 200000000 from Nat.le_trans (Xc.lsum_mem (by rw [List.getD, List.getElem?_eq_getElem hjl]; exact List.getElem_mem hjl)) HLS.out)
              clear hc2
              generalize ls.getD j [] = y at *
              have CW := Lib.hid (HTG.out.write y (by have h1 := HTL2.out; have h2 := HLT2.out; have h3 := HYL.out; rw [List.length_append]; omega))
              have CB := Lib.hid (fun W (GG : Nat) (h : TxG w w.heap.size GG #[.string ⟨f.toArray⟩, .int .i64 (n : Int), .slice (some ⟨g2, o2, none⟩) ls.length cc] ((l1 ++ (ls.take j).flatMap fun l => l ++ [10]) ++ y) W) => h.byte 10 (by have h1 := HTL2.out; have h2 := HLT2.out; have h3 := HYL.out; rw [List.length_append, List.length_append]; omega))
              go_wp2_with (first | (go_at_call 57; refine CW.out.mono ?_; rintro e w1 ⟨rfl, h1⟩; have H1 := Lib.hid h1; clear h1) | (go_at_call 59; refine (CB.out _ _ H1.out).mono ?_; rintro e w2 ⟨rfl, h2⟩; have H2 := Lib.hid h2; clear h2))
              go_roundw
              case rel => exact ⟨j + 1, by simp, HJL.out, by rw [HSN.out, ← List.append_assoc, ← List.append_assoc]; exact H2.out⟩
              case measure => have := HJL.out; simp [intOf]; omega
            · obtain rfl : j = ls.length := by omega
              have HTK := Lib.hid (show ls.take ls.length = ls from List.take_of_length_le (Nat.le_refl _))
              go_wp2_with fail
              go_roundw
              case rel => exact ⟨k + 1, by simp, HLT.out, by rw [HX.out]; have := HTG.out.out; rw [HTK.out] at this; subst hl1; subst hDD; simpa [Xc.textW, HNE.out, HP.out] using this⟩
              case measure => have := HLT.out; simp [intOf]; omega
    · have hle : (ws.length : Int) ≤ (k : Int) := by omega
      have HT := Lib.hid (show ws.take k = ws from List.take_of_length_le (by omega))
      have CS := Lib.hid (Tryd.Builder_String_any w.heap.size w.heap.size (Xc.text (ws.take k)) wr HTX.out.bdw HTX.out.2.size)
      go_wp2_with (go_at_call 60; refine CS.out.mono ?_; rintro e w1 ⟨rfl, hb1⟩)
      go_ret
      exact ⟨by rw [HT.out]; rfl, HTX.out.2.trans hb1⟩
end Go.Proofs.YtfafdkbnmfpbmaaDoor
