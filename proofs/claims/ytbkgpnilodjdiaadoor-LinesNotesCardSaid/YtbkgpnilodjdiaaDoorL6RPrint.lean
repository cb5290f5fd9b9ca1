/- The document's side: Print. -/
import Derived.Test.YtbkgpnilodjdiaaDoorL6Print
namespace Go.Proofs.YtbkgpnilodjdiaaDoor
open Go.RowKit Kit
set_option linter.unusedVariables false
set_option linter.unusedSimpArgs false

theorem L6.join_tail (ws : List (List UInt8)) : Lib.join ws [32] = (Lib.joinTail [32] ws).tail := by
  cases ws with
  | nil => rfl
  | cons x t => rw [Lib.join_cons]; simp [Lib.joinTail]
theorem L6.tail_snoc (ws : List (List UInt8)) (y : List UInt8) : Lib.joinTail [32] (ws ++ [y]) = Lib.joinTail [32] ws ++ [32] ++ y := by simp [Lib.joinTail]
theorem L6.tail_app (a b : List (List UInt8)) : Lib.joinTail [32] (a ++ b) = Lib.joinTail [32] a ++ Lib.joinTail [32] b := by simp [Lib.joinTail]
theorem cat3 (t y : List UInt8) : (⟨t.toArray⟩ : ByteArray) ++ (⟨#[32]⟩ : ByteArray) ++ (⟨y.toArray⟩ : ByteArray) = ⟨(t ++ [32] ++ y).toArray⟩ := by
  rw [show (⟨t.toArray⟩ : ByteArray) ++ (⟨#[32]⟩ : ByteArray) = ⟨(t ++ [32]).toArray⟩ from app_eq t [32], app_eq]
theorem cat4 (t y : List UInt8) : (⟨t.toArray⟩ : ByteArray) ++ (⟨#[32]⟩ : ByteArray) ++ (⟨y.toArray⟩ : ByteArray) ++ (⟨#[58]⟩ : ByteArray) = ⟨(t ++ [32] ++ (y ++ [58])).toArray⟩ := by
  rw [cat3]
  exact (app_eq (t ++ [32] ++ y) [58]).trans (by rw [List.append_assoc (t ++ [32])])
theorem L6.take_snoc {l : List (List UInt8)} {j : Nat} (hj : j < l.length) : l.take (j + 1) = l.take j ++ [l.getD j []] := by
  rw [List.take_add_one, List.getElem?_eq_getElem hj]
  simp [List.getD, hj]
theorem L6.tsum_take (l : List (List UInt8)) (j : Nat) : L6.tsum (l.take j) ≤ L6.tsum l := by
  induction l generalizing j with
  | nil => simp
  | cons x t ih =>
    cases j with
    | zero => simp [L6.tsum]
    | succ j => rw [List.take_succ_cons, L6.tsum_cons, L6.tsum_cons]; have := ih j; omega
set_option maxRecDepth 100000 in
set_option maxHeartbeats 4000000 in
theorem rprint_any (v : Value) (ls : List L6.Line) (w : World) (h : RdL w v ls) (hw : L6.weight ls ≤ 100000000) :
    Calls Tryd.prog 24 #[v] w fun e w' => e = .returned (.tuple #[.string ⟨(L6.print ls).1.toArray⟩, .int .i64 (L6.print ls).2]) ∧ Below w.heap.size w w' := by
  have HH := Lib.hid h
  have HW := Lib.hid hw
  have HLL := Lib.hid (show ls.length ≤ 100000000 from by have := L6.weight_len ls; omega)
  have HFEW := Lib.hid (show ∀ x ∈ ls, x.Few from fun x hx => L6.few_of (Nat.le_trans (L6.weight_mem hx) hw))
  have HNO := Lib.hid (fun (k : Nat) => L6.print_no (ls := ls) (k := k))
  have HYES := Lib.hid (L6.print_yes (ls := ls))
  obtain ⟨A, c, rfl⟩ := h.form
  clear h hw
  go_enter Tryd.func24, Tryd.ntmps24
  go_wp2_with fail
  go_loopw [4, 5] (fun s i wr => ∃ k : Nat, s = .string ⟨(L6.text (ls.take k)).toArray⟩ ∧ i = .int .i64 (k : Int) ∧ k ≤ ls.length ∧ Below w.heap.size w wr ∧ ∀ j (hj : j < ls.length), j < k → L6.right ls[j] = true) (fun _ i _ => match i with | .int _ n => ls.length - n.toNat | _ => 0)
  case atStart => exact ⟨0, rfl, rfl, Nat.zero_le _, Below.refl _ _, fun j _ hj => absurd hj (by omega)⟩
  case round =>
    obtain ⟨k, rfl, rfl, hk, hbr, hri⟩ := hrel
    have HBR := Lib.hid hbr
    have HRI := Lib.hid hri
    clear hbr hri
    by_cases hlt : k < ls.length
    · have hlt' : (k : Int) < (ls.length : Int) := by omega
      have hw1 : IntKind.i64.wrap ((k : Int) + 1) = (k : Int) + 1 := by have := HLL.out; rw [IntKind.wrap_i64]; omega
      obtain ⟨g, off, c', vl, va, e, hg, c0, c1, c2, r1, r2⟩ := HH.out.at hlt
      injection e with e1 e2 e3
      subst e1 e3
      have HX := Lib.hid (show ls.take (k + 1) = ls.take k ++ [ls[k]] from lines_take hlt)
      have HFX := Lib.hid (HFEW.out _ (List.getElem_mem hlt))
      have HWX := Lib.hid (Nat.le_trans (L6.weight_mem (List.getElem_mem hlt)) HW.out)
      have HNK := Lib.hid (HNO.out k hlt)
      have HLT := Lib.hid hlt
      have HRK := Lib.hid (fun (h1 : L6.right ls[k] = true) j (hj : j < ls.length) (hjk : j < k + 1) => show L6.right ls[j] = true from by
        by_cases e : j = k
        · subst e; exact h1
        · exact HRI.out j hj (by omega))
      have HC : Hid (∀ W', Below w.heap.size w W' → W'.cell? ⟨g, off + k * 3, none⟩ = some vl ∧ W'.cell? ⟨g, off + k * 3 + 1, none⟩ = some (.string ⟨(ls[k]).word.toArray⟩) ∧ W'.cell? ⟨g, off + k * 3 + 2, none⟩ = some va) :=
        Lib.hid fun W' hb => ⟨(hb.cell (p := ⟨g, _, none⟩) hg).trans c0, (hb.cell (p := ⟨g, _, none⟩) hg).trans c1, (hb.cell (p := ⟨g, _, none⟩) hg).trans c2⟩
      have HR1 := Lib.hid r1
      have HR2 := Lib.hid r2
      clear c0 c1 c2 r1 r2
      generalize hX : ls[k] = X at *
      clear hX
      obtain ⟨xl, xw, xa⟩ := X
      dsimp only at HR1 HR2 HC
      obtain ⟨B1, cc1, rfl⟩ := HR1.out.form
      obtain ⟨B2, cc2, rfl⟩ := HR2.out.form
      obtain ⟨q0, q1, q2⟩ := HC.out _ HBR.out
      have CR := Lib.hid (rright_any (.slice B1 xl.length cc1) (.slice B2 xa.length cc2) ⟨xl, xw, xa⟩ _ (HR1.out.kept HBR.out) (HR2.out.kept HBR.out) HFX.out)
      cases hrx : L6.right ⟨xl, xw, xa⟩
      · have HR := Lib.hid (HNK.out hrx)
        rw [hrx] at CR
        clear HNK HRK hrx
        go_wp2_with (go_at_call 26; refine CR.out.mono ?_; rintro e w1 ⟨rfl, hb1⟩)
        go_ret2
        exact ⟨lret_si (by rw [HR.out]) (by rw [HR.out]; rfl), HBR.out.trans (hb1.mono HBR.out.size)⟩
      · have HRN := Lib.hid (HRK.out hrx)
        rw [hrx] at CR
        have htl : (L6.text (ls.take k)).length ≤ 200000000 := by have := L6.text_len (ls.take k); have := L6.weight_take ls k; have := HW.out; omega
        have hlw : L6.lweight ⟨xl, xw, xa⟩ ≤ 100000000 := HWX.out
        unfold L6.lweight at hlw
        simp only at hlw
        have HTL := Lib.hid htl
        have HLW := Lib.hid hlw
        have HTX := Lib.hid (show L6.text (ls.take (k + 1)) = L6.text (ls.take k) ++ (L6.lineText ⟨xl, xw, xa⟩) from by rw [HX.out, L6.text_snoc])
        have HLN := Lib.hid (show L6.lineText ⟨xl, xw, xa⟩ = (Lib.joinTail [32] (L6.marked xl ++ (if xw = [] then [] else [xw]) ++ xa)).tail ++ [10] from by
          unfold L6.lineText; rw [L6.join_tail]; rfl)
        clear HNK HRK hrx htl hlw
        generalize L6.text (ls.take k) = TX at *
        go_wp2_with (go_at_call 26; refine CR.out.mono ?_; rintro e w1 ⟨rfl, hb1⟩; obtain ⟨p0, p1, p2⟩ := HC.out _ (HBR.out.trans (hb1.mono HBR.out.size)))
        have HB1 := Lib.hid (HBR.out.trans (hb1.mono HBR.out.size))
        clear q0 q1 q2 hb1
        go_loop [6, 7] (fun o i => ∃ j : Nat, i = .int .i64 (j : Int) ∧ j ≤ xl.length ∧ o = .string ⟨(Lib.joinTail [32] (L6.marked (xl.take j))).toArray⟩) (fun _ i => match i with | .int _ n => xl.length - n.toNat | _ => 0)
        case atStart => exact ⟨0, rfl, Nat.zero_le _, rfl⟩
        case round =>
          obtain ⟨j, rfl, hj, rfl⟩ := hrel
          by_cases hjl : j < xl.length
          · have hjl' : (j : Int) < (xl.length : Int) := by omega
            have hwj : IntKind.i64.wrap ((j : Int) + 1) = (j : Int) + 1 := by have := HLW.out; rw [IntKind.wrap_i64]; omega
            obtain ⟨gl, ofl, cl, e, hgl, hcl⟩ := HR1.out.at hjl
            injection e with e1 e2 e3
            subst e1 e3
            have hcr := (HB1.out.cell (p := ⟨gl, ofl + j, none⟩) hgl).trans hcl
            have HJL := Lib.hid hjl
            have hjt := L6.joinTail_len (L6.marked (xl.take j))
            have hms := L6.marked_sum (xl.take j)
            have hml := L6.marked_len (xl.take j)
            have hts := L6.tsum_take xl j
            have htk : (xl.take j).length ≤ xl.length := by rw [List.length_take]; omega
            have hyl : (xl.getD j []).length ≤ L6.tsum xl := L6.tsum_mem (by rw [List.getD, List.getElem?_eq_getElem hjl]; exact List.getElem_mem hjl)
            have HMT := Lib.hid (show Lib.joinTail [32] (L6.marked (xl.take (j + 1))) = Lib.joinTail [32] (L6.marked (xl.take j)) ++ [32] ++ (xl.getD j [] ++ [58]) from by rw [L6.marked_take hjl, L6.tail_snoc])
            have hlw := HLW.out
            clear hcl hjl
            generalize xl.getD j [] = y at *
            generalize Lib.joinTail [32] (L6.marked (xl.take j)) = t at *
            have k1 : ¬ 9223372036854775807 < t.length + 1 := by omega
            have k2 : ¬ 9223372036854775807 < t.length + 1 + y.length := by omega
            have k3 : ¬ 9223372036854775807 < t.length + 1 + y.length + 1 := by omega
            clear hjt hms hml hts htk hyl hlw
            go_wp2_with fail
            go_round
            case rel => exact ⟨j + 1, by simp, HJL.out, by rw [HMT.out]; exact congrArg Value.string (cat4 t y)⟩
            case measure => have := HJL.out; simp; omega
          · have hle : (xl.length : Int) ≤ (j : Int) := by omega
            obtain rfl : j = xl.length := by omega
            have hlb : xl.take xl.length = xl := List.take_of_length_le (Nat.le_refl _)
            rw [hlb]
            have hjt := L6.joinTail_len (L6.marked xl)
            have hms := L6.marked_sum xl
            have hml := L6.marked_len xl
            have HT0 := Lib.hid (show (Lib.joinTail [32] (L6.marked xl)).length ≤ 300000000 from by have := HLW.out; omega)
            clear hjt hms hml hj
            by_cases hxw : xw = []
            · subst hxw
              have HLN2 := Lib.hid (show L6.lineText ⟨xl, [], xa⟩ = (Lib.joinTail [32] (L6.marked xl) ++ Lib.joinTail [32] xa).tail ++ [10] from by rw [HLN.out, if_pos rfl, List.append_nil, L6.tail_app])
              generalize Lib.joinTail [32] (L6.marked xl) = t0 at *
              go_wp2_with fail
              clear p1
              go_loop [6, 8] (fun o i => ∃ j : Nat, i = .int .i64 (j : Int) ∧ j ≤ xa.length ∧ o = .string ⟨(t0 ++ Lib.joinTail [32] (xa.take j)).toArray⟩) (fun _ i => match i with | .int _ n => xa.length - n.toNat | _ => 0)
              case atStart => exact ⟨0, rfl, Nat.zero_le _, by simp [Lib.joinTail]⟩
              case round =>
                obtain ⟨j, rfl, hj, rfl⟩ := hrel
                by_cases hjl : j < xa.length
                · have hjl' : (j : Int) < (xa.length : Int) := by omega
                  have hwj : IntKind.i64.wrap ((j : Int) + 1) = (j : Int) + 1 := by have := HLW.out; rw [IntKind.wrap_i64]; omega
                  obtain ⟨gl, ofl, cl, e, hgl, hcl⟩ := HR2.out.at hjl
                  injection e with e1 e2 e3
                  subst e1 e3
                  have hcr := (HB1.out.cell (p := ⟨gl, ofl + j, none⟩) hgl).trans hcl
                  have HJL := Lib.hid hjl
                  have hjt := L6.joinTail_len (xa.take j)
                  have hts := L6.tsum_take xa j
                  have htk : (xa.take j).length ≤ xa.length := by rw [List.length_take]; omega
                  have hyl : (xa.getD j []).length ≤ L6.tsum xa := L6.tsum_mem (by rw [List.getD, List.getElem?_eq_getElem hjl]; exact List.getElem_mem hjl)
                  have HMT := Lib.hid (show t0 ++ Lib.joinTail [32] (xa.take (j + 1)) = t0 ++ Lib.joinTail [32] (xa.take j) ++ [32] ++ xa.getD j [] from by rw [L6.take_snoc hjl, L6.tail_snoc]; simp)
                  have hlw := HLW.out
                  have htt := HT0.out
                  have htz : (t0 ++ Lib.joinTail [32] (xa.take j)).length ≤ 1500000000 := by rw [List.length_append]; omega
                  clear hcl hjl
                  generalize xa.getD j [] = y at *
                  generalize t0 ++ Lib.joinTail [32] (xa.take j) = t at *
                  have k1 : ¬ 9223372036854775807 < t.length + 1 := by omega
                  have k2 : ¬ 9223372036854775807 < t.length + 1 + y.length := by omega
                  clear hjt hts htk hyl hlw htt htz
                  go_wp2_with fail
                  go_round
                  case rel => exact ⟨j + 1, by simp, HJL.out, by rw [HMT.out]; exact congrArg Value.string (cat3 t y)⟩
                  case measure => have := HJL.out; simp; omega
                · have hle : (xa.length : Int) ≤ (j : Int) := by omega
                  obtain rfl : j = xa.length := by omega
                  have hlb : xa.take xa.length = xa := List.take_of_length_le (Nat.le_refl _)
                  rw [hlb]
                  have hjt := L6.joinTail_len xa
                  have htz : (t0 ++ Lib.joinTail [32] xa).length ≤ 1500000000 := by rw [List.length_append]; have := HT0.out; have := HLW.out; omega
                  have htl := HTL.out
                  clear hjt hj
                  generalize t0 ++ Lib.joinTail [32] xa = t at *
                  by_cases ht : t = []
                  · subst ht
                    have HFN := Lib.hid (show L6.text (ls.take (k + 1)) = TX ++ [] ++ [10] from by rw [HTX.out, HLN2.out]; simp)
                    have k1 : ¬ 9223372036854775807 < TX.length := by omega
                    have k2 : ¬ 9223372036854775807 < TX.length + 1 := by omega
                    clear htl htz
                    go_wp2_with fail
                    go_roundw
                    case rel => exact ⟨k + 1, by rw [HFN.out, ← app_eq, ← app_eq], by simp, HLT.out, HB1.out, HRN.out⟩
                    case measure => have := HLT.out; simp; omega
                  · have hne2 : (t == ([] : List UInt8)) = false := by simpa using ht
                    have g1 : (1 : Int) ≤ (t.length : Int) := by cases t with | nil => exact absurd rfl ht | cons => simp <;> omega
                    have HEX := Lib.hid (show (⟨t.toArray⟩ : ByteArray).extract 1 t.length = ⟨t.tail.toArray⟩ from by rw [L6.drop_str]; simp)
                    have HFN := Lib.hid (show L6.text (ls.take (k + 1)) = TX ++ t.tail ++ [10] from by rw [HTX.out, HLN2.out]; simp)
                    have htt : t.tail.length ≤ 1500000000 := by rw [List.length_tail]; omega
                    have hsz : ((⟨t.toArray⟩ : ByteArray).extract 1 t.length).size = t.tail.length := by rw [HEX.out]; simp [ByteArray.size]
                    have k1 : ¬ 9223372036854775807 < TX.length + t.tail.length := by omega
                    have k2 : ¬ 9223372036854775807 < TX.length + t.tail.length + 1 := by omega
                    have k3 : ¬ 9223372036854775807 < TX.length + (t.length - 1) := by omega
                    have k4 : ¬ 9223372036854775807 < TX.length + (t.length - 1) + 1 := by omega
                    clear htl htz ht htt
                    go_wp2_with fail
                    go_roundw
                    case rel => exact ⟨k + 1, by rw [HFN.out, HEX.out, ← app_eq, ← app_eq], by simp, HLT.out, HB1.out, HRN.out⟩
                    case measure => have := HLT.out; simp; omega
            · have hne : (xw == ([] : List UInt8)) = false := by simpa using hxw
              have HLN2 := Lib.hid (show L6.lineText ⟨xl, xw, xa⟩ = ((Lib.joinTail [32] (L6.marked xl) ++ [32] ++ xw) ++ Lib.joinTail [32] xa).tail ++ [10] from by rw [HLN.out, if_neg hxw, L6.tail_app, L6.tail_snoc])
              have hlw := HLW.out
              have ht0 := HT0.out
              generalize Lib.joinTail [32] (L6.marked xl) = t1 at *
              have k1 : ¬ 9223372036854775807 < t1.length + 1 := by omega
              have k2 : ¬ 9223372036854775807 < t1.length + 1 + xw.length := by omega
              clear hlw ht0 hxw
              go_wp2_with fail
              rw [cat3]
              have HT1 := Lib.hid (show (t1 ++ [32] ++ xw).length ≤ 500000000 from by have := HT0.out; have := HLW.out; simp; omega)
              generalize t1 ++ [32] ++ xw = t0 at *
              clear p1
              go_loop [6, 8] (fun o i => ∃ j : Nat, i = .int .i64 (j : Int) ∧ j ≤ xa.length ∧ o = .string ⟨(t0 ++ Lib.joinTail [32] (xa.take j)).toArray⟩) (fun _ i => match i with | .int _ n => xa.length - n.toNat | _ => 0)
              case atStart => exact ⟨0, rfl, Nat.zero_le _, by simp [Lib.joinTail]⟩
              case round =>
                obtain ⟨j, rfl, hj, rfl⟩ := hrel
                by_cases hjl : j < xa.length
                · have hjl' : (j : Int) < (xa.length : Int) := by omega
                  have hwj : IntKind.i64.wrap ((j : Int) + 1) = (j : Int) + 1 := by have := HLW.out; rw [IntKind.wrap_i64]; omega
                  obtain ⟨gl, ofl, cl, e, hgl, hcl⟩ := HR2.out.at hjl
                  injection e with e1 e2 e3
                  subst e1 e3
                  have hcr := (HB1.out.cell (p := ⟨gl, ofl + j, none⟩) hgl).trans hcl
                  have HJL := Lib.hid hjl
                  have hjt := L6.joinTail_len (xa.take j)
                  have hts := L6.tsum_take xa j
                  have htk : (xa.take j).length ≤ xa.length := by rw [List.length_take]; omega
                  have hyl : (xa.getD j []).length ≤ L6.tsum xa := L6.tsum_mem (by rw [List.getD, List.getElem?_eq_getElem hjl]; exact List.getElem_mem hjl)
                  have HMT := Lib.hid (show t0 ++ Lib.joinTail [32] (xa.take (j + 1)) = t0 ++ Lib.joinTail [32] (xa.take j) ++ [32] ++ xa.getD j [] from by rw [L6.take_snoc hjl, L6.tail_snoc]; simp)
                  have hlw := HLW.out
                  have htt := HT1.out
                  have htz : (t0 ++ Lib.joinTail [32] (xa.take j)).length ≤ 1500000000 := by rw [List.length_append]; omega
                  clear hcl hjl
                  generalize xa.getD j [] = y at *
                  generalize t0 ++ Lib.joinTail [32] (xa.take j) = t at *
                  have k1 : ¬ 9223372036854775807 < t.length + 1 := by omega
                  have k2 : ¬ 9223372036854775807 < t.length + 1 + y.length := by omega
                  clear hjt hts htk hyl hlw htt htz
                  go_wp2_with fail
                  go_round
                  case rel => exact ⟨j + 1, by simp, HJL.out, by rw [HMT.out]; exact congrArg Value.string (cat3 t y)⟩
                  case measure => have := HJL.out; simp; omega
                · have hle : (xa.length : Int) ≤ (j : Int) := by omega
                  obtain rfl : j = xa.length := by omega
                  have hlb : xa.take xa.length = xa := List.take_of_length_le (Nat.le_refl _)
                  rw [hlb]
                  have hjt := L6.joinTail_len xa
                  have htz : (t0 ++ Lib.joinTail [32] xa).length ≤ 1500000000 := by rw [List.length_append]; have := HT1.out; have := HLW.out; omega
                  have htl := HTL.out
                  clear hjt hj
                  generalize t0 ++ Lib.joinTail [32] xa = t at *
                  by_cases ht : t = []
                  · subst ht
                    have HFN := Lib.hid (show L6.text (ls.take (k + 1)) = TX ++ [] ++ [10] from by rw [HTX.out, HLN2.out]; simp)
                    have k1 : ¬ 9223372036854775807 < TX.length := by omega
                    have k2 : ¬ 9223372036854775807 < TX.length + 1 := by omega
                    clear htl htz
                    go_wp2_with fail
                    go_roundw
                    case rel => exact ⟨k + 1, by rw [HFN.out, ← app_eq, ← app_eq], by simp, HLT.out, HB1.out, HRN.out⟩
                    case measure => have := HLT.out; simp; omega
                  · have hne2 : (t == ([] : List UInt8)) = false := by simpa using ht
                    have g1 : (1 : Int) ≤ (t.length : Int) := by cases t with | nil => exact absurd rfl ht | cons => simp <;> omega
                    have HEX := Lib.hid (show (⟨t.toArray⟩ : ByteArray).extract 1 t.length = ⟨t.tail.toArray⟩ from by rw [L6.drop_str]; simp)
                    have HFN := Lib.hid (show L6.text (ls.take (k + 1)) = TX ++ t.tail ++ [10] from by rw [HTX.out, HLN2.out]; simp)
                    have htt : t.tail.length ≤ 1500000000 := by rw [List.length_tail]; omega
                    have hsz : ((⟨t.toArray⟩ : ByteArray).extract 1 t.length).size = t.tail.length := by rw [HEX.out]; simp [ByteArray.size]
                    have k1 : ¬ 9223372036854775807 < TX.length + t.tail.length := by omega
                    have k2 : ¬ 9223372036854775807 < TX.length + t.tail.length + 1 := by omega
                    have k3 : ¬ 9223372036854775807 < TX.length + (t.length - 1) := by omega
                    have k4 : ¬ 9223372036854775807 < TX.length + (t.length - 1) + 1 := by omega
                    clear htl htz ht htt
                    go_wp2_with fail
                    go_roundw
                    case rel => exact ⟨k + 1, by rw [HFN.out, HEX.out, ← app_eq, ← app_eq], by simp, HLT.out, HB1.out, HRN.out⟩
                    case measure => have := HLT.out; simp; omega
    · have hle : (ls.length : Int) ≤ (k : Int) := by omega
      have HT := Lib.hid (show ls.take k = ls from List.take_of_length_le (by omega))
      have HR := Lib.hid (HYES.out (fun j hj => HRI.out j hj (by omega)))
      go_wp2_with fail
      go_ret2
      exact ⟨lret_si (by rw [HR.out, HT.out]) (by rw [HR.out]; rfl), HBR.out⟩
end Go.Proofs.YtbkgpnilodjdiaaDoor
