/- The document's side: whole, Right. -/
import Derived.Test.YtbkgpnilodjdiaaDoorL6RightW
import Derived.Test.YtbkgpnilodjdiaaDoorL6RNum
namespace Go.Proofs.YtbkgpnilodjdiaaDoor
open Go.RowKit Kit
set_option linter.unusedVariables false
set_option linter.unusedSimpArgs false

theorem L6.free_all {s : List UInt8} (h : ∀ j, j < s.length → s.getD j 0 ≠ 10) : 10 ∉ s := by
  intro hm
  obtain ⟨i, hi, he⟩ := List.mem_iff_getElem.1 hm
  exact h i hi (by rw [List.getD, List.getElem?_eq_getElem hi]; simpa using he)
theorem L6.not_free {s : List UInt8} {k : Nat} (hk : k < s.length) (h : s.getD k 0 = 10) : 10 ∈ s := by
  rw [← h, List.getD, List.getElem?_eq_getElem hk]
  exact List.getElem_mem hk
set_option maxHeartbeats 1000000 in
theorem rwhole_any (s : List UInt8) (w : World) (hs : s.length ≤ 1000000000) : Calls Tryd.prog 59 #[.string ⟨s.toArray⟩] w fun e w' => e = .returned (.bool (L6.whole s)) ∧ Below w.heap.size w w' := by
  have HS := Lib.hid hs
  have HG := Lib.hid (fun k (hk : k < s.length) => L6.get_data s k hk)
  have CW := Lib.hid (rwords_any s w hs)
  go_enter Tryd.func59, Tryd.ntmps59
  go_wp2_with fail
  go_loop [3] (fun i => ∃ k : Nat, i = .int .i64 (k : Int) ∧ k ≤ s.length ∧ ∀ j, j < k → s.getD j 0 ≠ 10) (fun i => s.length - (intOf i).toNat)
  case atStart => exact ⟨0, rfl, Nat.zero_le _, fun j hj => absurd hj (by omega)⟩
  case round =>
    obtain ⟨k, rfl, hk, hno⟩ := hrel
    have HN := Lib.hid hno
    clear hno hs
    by_cases hlt : k < s.length
    · have hlt' : (k : Int) < s.length := by omega
      have hw1 : IntKind.i64.wrap ((k : Int) + 1) = (k : Int) + 1 := by have := HS.out; rw [IntKind.wrap_i64]; omega
      have e10 : ((((⟨s.toArray⟩ : ByteArray)[k]'hlt).toNat : Int) == 10) = (s.getD k 0 == 10) := by rw [HG.out k hlt]; exact byte_eq _ 10
      by_cases h10 : s.getD k 0 = 10
      · have HR := Lib.hid (show L6.whole s = false from by unfold L6.whole; rw [show decide (10 ∉ s) = false from by simpa using L6.not_free hlt h10, Bool.and_false])
        rw [h10] at e10
        clear h10
        go_wp2_with fail
        go_ret
        exact ⟨lret_bool HR.out.symm, Below.refl _ _⟩
      · rw [show (s.getD k 0 == 10) = false from by simpa using h10] at e10
        have HE := Lib.hid (show ∀ j, j < k + 1 → s.getD j 0 ≠ 10 from fun j hj => by
          by_cases e : j = k
          · rw [e]; exact h10
          · exact HN.out j (by omega))
        clear h10
        go_wp2_with fail
        go_round
        case rel => exact ⟨k + 1, by simp, hlt, HE.out⟩
        case measure => simp [intOf]; omega
    · have hle : (s.length : Int) ≤ (k : Int) := by omega
      have HF := Lib.hid (L6.free_all (s := s) (fun j hj => HN.out j (by omega)))
      have HV := Lib.hid (show L6.whole s = decide (L6.wordsOf s = some [s]) from by unfold L6.whole; rw [decide_eq_true HF.out, Bool.and_true])
      cases hw : L6.wordsOf s with
      | none =>
        have CN := Lib.hid (CW.out.mono (R' := fun e w' => e = .returned (.tuple #[.slice none 0 0, .bool false]) ∧ Below w.heap.size w w') (fun e w' hh => by rw [hw] at hh; exact hh))
        have HR := Lib.hid (show L6.whole s = false from by rw [HV.out, hw]; rfl)
        clear CW hw
        go_wp2_with (go_at_call 41; refine CN.out.mono ?_; rintro e w1 ⟨rfl, hb1⟩)
        go_ret
        exact ⟨lret_bool HR.out.symm, hb1⟩
      | some ws =>
        have CS := Lib.hid (CW.out.mono (R' := fun e w' => ∃ v, e = .returned (.tuple #[v, .bool true]) ∧ OwnS w.heap.size w' v ws ∧ Below w.heap.size w w') (fun e w' hh => by rw [hw] at hh; exact hh))
        have HW := Lib.hid hw
        clear CW hw
        match ws with
        | [] =>
          have HR := Lib.hid (show L6.whole s = false from by rw [HV.out, HW.out]; simp)
          go_wp2_with (go_at_call 41; refine CS.out.mono ?_; rintro e w1 ⟨v, rfl, hv, hb1⟩; obtain ⟨A, c, rfl⟩ := hv.form)
          go_ret
          exact ⟨lret_bool HR.out.symm, hb1⟩
        | x :: y :: t =>
          have HR := Lib.hid (show L6.whole s = false from by rw [HV.out, HW.out]; simp)
          have hlen : (((x :: y :: t).length : Int) == 1) = false := by rw [beq_eq_false_iff_ne]; simp; omega
          generalize hg : (x :: y :: t).length = n at hlen
          go_wp2_with (go_at_call 41; refine CS.out.mono ?_; rintro e w1 ⟨v, rfl, hv, hb1⟩; obtain ⟨A, c, rfl⟩ := hv.form; rw [hg])
          go_ret
          exact ⟨lret_bool HR.out.symm, hb1⟩
        | [x] =>
          by_cases hx : x = s
          · subst hx
            have HR := Lib.hid (show L6.whole x = true from by rw [HV.out, HW.out]; simp)
            clear HW HV
            go_wp2_with (go_at_call 41; refine CS.out.mono ?_; rintro e w1 ⟨v, rfl, hv, hb1⟩; obtain ⟨g, off, c, rfl, hg, hc⟩ := (OwnS.rd hv).at (k := 0) (by simp); simp only [Nat.add_zero, List.getD_cons_zero, List.length_cons, List.length_nil] at hc)
            go_ret
            exact ⟨lret_bool HR.out.symm, hb1⟩
          · have hxx : (x == s) = false := by rw [beq_eq_false_iff_ne]; exact hx
            have HR := Lib.hid (show L6.whole s = false from by rw [HV.out, HW.out]; simp [hx])
            clear HW hx HV
            go_wp2_with (go_at_call 41; refine CS.out.mono ?_; rintro e w1 ⟨v, rfl, hv, hb1⟩; obtain ⟨g, off, c, rfl, hg, hc⟩ := (OwnS.rd hv).at (k := 0) (by simp); simp only [Nat.add_zero, List.getD_cons_zero, List.length_cons, List.length_nil] at hc)
            go_ret
            exact ⟨lret_bool HR.out.symm, hb1⟩
theorem L6.whole_ne {s : List UInt8} (h : L6.whole s = true) : s ≠ [] := by
  rintro rfl
  revert h
  decide
theorem L6.quoted_head (s : List UInt8) (h : s ≠ []) : L6.quoted s = (s.getD 0 0 == 34) := by
  cases s with
  | nil => exact absurd rfl h
  | cons c t =>
    unfold L6.quoted Lib.hasPrefix
    simp only [List.isPrefixOf, Bool.and_true, List.getD_cons_zero]
    exact bcomm 34 c
theorem L6.right_no_label {x : L6.Line} {k : Nat} (hk : k < x.labels.length) (h : L6.whole (x.labels.getD k []) = false ∨ L6.quoted (x.labels.getD k []) = true) : L6.right x = false := by
  have hm : x.labels.getD k [] ∈ x.labels := by rw [List.getD, List.getElem?_eq_getElem hk]; exact List.getElem_mem hk
  rcases h with h | h
  · exact L6.right_labels (List.any_eq_true.2 ⟨_, hm, by rw [h]; rfl⟩)
  · exact L6.right_quoted (List.any_eq_true.2 ⟨_, hm, h⟩)
theorem L6.right_no_arg {x : L6.Line} {k : Nat} (hk : k < x.args.length) (h : L6.whole (x.args.getD k []) = false) : L6.right x = false := by
  have hm : x.args.getD k [] ∈ x.args := by rw [List.getD, List.getElem?_eq_getElem hk]; exact List.getElem_mem hk
  exact L6.right_args (List.any_eq_true.2 ⟨_, hm, by rw [h]; rfl⟩)
theorem L6.any_no {p : List UInt8 → Bool} {l : List (List UInt8)} (h : ∀ j, j < l.length → p (l.getD j []) = false) : l.any p = false := by
  rw [List.any_eq_false]
  intro x hx
  obtain ⟨i, hi, rfl⟩ := List.mem_iff_getElem.1 hx
  have := h i hi
  rw [List.getD, List.getElem?_eq_getElem hi] at this
  simpa using this
theorem L6.right_last {x : L6.Line} (h1 : ∀ j, j < x.labels.length → L6.whole (x.labels.getD j []) = true ∧ L6.quoted (x.labels.getD j []) = false) (h2 : ∀ j, j < x.args.length → L6.whole (x.args.getD j []) = true) :
    L6.right x = if x.word = [] then decide (x.args = []) else L6.whole x.word && (!L6.quoted x.word && !L6.label x.word) :=
  L6.right_rest (L6.any_no fun j hj => by rw [(h1 j hj).1]; rfl) (L6.any_no fun j hj => (h1 j hj).2) (L6.any_no fun j hj => by rw [h2 j hj]; rfl)
set_option maxRecDepth 100000 in
set_option maxHeartbeats 4000000 in
theorem rright_any (vl va : Value) (x : L6.Line) (w : World) (hl : RdS w vl x.labels) (ha : RdS w va x.args) (hf : x.Few) :
    Calls Tryd.prog 26 #[.agg #[vl, .string ⟨x.word.toArray⟩, va]] w fun e w' => e = .returned (.bool (L6.right x)) ∧ Below w.heap.size w w' := by
  obtain ⟨A1, c1, rfl⟩ := hl.form
  obtain ⟨A2, c2, rfl⟩ := ha.form
  obtain ⟨w0, hw0⟩ : ∃ w0, w.alloc (.cells #[.slice A1 x.labels.length c1, .string ⟨x.word.toArray⟩, .slice A2 x.args.length c2] 47) = w0 := ⟨_, rfl⟩
  have HC := Lib.hid (line_boxed 47 w (.slice A1 x.labels.length c1) (.slice A2 x.args.length c2) ⟨x.word.toArray⟩)
  have HZ := Lib.hid (show w.heap.size + 1 ≤ (w.alloc (.cells #[.slice A1 x.labels.length c1, .string ⟨x.word.toArray⟩, .slice A2 x.args.length c2] 47)).heap.size from by simp)
  rw [hw0] at HC HZ
  have cw : ∀ (s : List UInt8), s.length ≤ 1000000000 → ∀ W', Below (w.heap.size + 1) w0 W' → Calls Tryd.prog 59 #[.string ⟨s.toArray⟩] W' fun e w' => e = .returned (.bool (L6.whole s)) ∧ Below (w.heap.size + 1) w0 w' := fun s hs W' hb => (rwhole_any s W' hs).mono fun e w' hh => ⟨hh.1, hb.trans (hh.2.mono (Nat.le_trans HZ.out hb.size))⟩
  have CWW := Lib.hid cw
  have KL := Lib.hid (show ∀ W', Calls Tryd.prog 60 #[.string ⟨x.word.toArray⟩] W' fun e w' => e = .returned (.bool (L6.label x.word)) ∧ W' = w' from fun W' => rlabel_any x.word W' hf.2.1)
  have HF := Lib.hid hf
  have HL := Lib.hid hl
  have HA := Lib.hid ha
  have RL := Lib.hid (L6.right_last (x := x))
  have RNL := Lib.hid (fun (k : Nat) => L6.right_no_label (x := x) (k := k))
  have RNA := Lib.hid (fun (k : Nat) => L6.right_no_arg (x := x) (k := k))
  have HE : Hid (x.args = [] ↔ x.args.length = 0) := Lib.hid (by cases x.args <;> simp)
  clear cw hf hl ha
  go_enter Tryd.func26, Tryd.ntmps26
  obtain ⟨⟨q0, q1, q2⟩, _⟩ := HC.out _ (Below.refl _ _)
  go_wp2_with fail
  clear q0 q1 q2
  go_loopw [3] (fun i wr => ∃ k : Nat, i = .int .i64 (k : Int) ∧ k ≤ x.labels.length ∧ Below (w.heap.size + 1) w0 wr ∧ ∀ j, j < k → L6.whole (x.labels.getD j []) = true ∧ L6.quoted (x.labels.getD j []) = false) (fun i _ => x.labels.length - (intOf i).toNat)
  case atStart => exact ⟨0, rfl, Nat.zero_le _, Below.refl _ _, fun j hj => absurd hj (by omega)⟩
  case round =>
    obtain ⟨k, rfl, hk, hx1, hno⟩ := hrel
    have HN := Lib.hid hno
    have HX1 := Lib.hid hx1
    obtain ⟨⟨q0, q1, q2⟩, hy1⟩ := HC.out _ hx1
    clear hno
    by_cases hlt : k < x.labels.length
    · have hlt' : (k : Int) < (x.labels.length : Int) := by omega
      have hw1 : IntKind.i64.wrap ((k : Int) + 1) = (k : Int) + 1 := by have := HF.out.1.1; rw [IntKind.wrap_i64]; omega
      obtain ⟨g, off, c', e, hg, hcell⟩ := HL.out.at hlt
      injection e with e1 e2 e3
      subst e1 e3
      have hcr : wr.cell? ⟨g, off + k, none⟩ = some (.string ⟨(x.labels.getD k []).toArray⟩) := (hy1.cell (p := ⟨g, off + k, none⟩) hg).trans hcell
      have hxl : (x.labels.getD k []).length ≤ 1000000000 := HF.out.1.2 _ (by rw [List.getD, List.getElem?_eq_getElem hlt]; exact List.getElem_mem hlt)
      have RNK := Lib.hid (RNL.out k hlt)
      have HLT := Lib.hid hlt
      have HEX := Lib.hid (fun (h1 : L6.whole (x.labels.getD k []) = true) (h2 : L6.quoted (x.labels.getD k []) = false) j (hj : j < k + 1) => show L6.whole (x.labels.getD j []) = true ∧ L6.quoted (x.labels.getD j []) = false from by
        by_cases e : j = k
        · rw [e]; exact ⟨h1, h2⟩
        · exact HN.out j (by omega))
      clear hcell hlt
      generalize x.labels.getD k [] = s at *
      have CW := Lib.hid (fun (W' : World) (_ : Unit) hb => CWW.out s hxl W' hb)
      by_cases hs0 : s = []
      · subst hs0
        have HR := Lib.hid (RNK.out (.inl (by decide)))
        clear RNK HEX CW
        go_wp2_with fail
        go_ret
        exact ⟨lret_bool HR.out.symm, hy1⟩
      · have hne : (s == ([] : List UInt8)) = false := by simpa using hs0
        have g0 : 0 < s.length := by cases s with | nil => exact absurd rfl hs0 | cons => simp
        have e0 : ((((⟨s.toArray⟩ : ByteArray)[0]'g0).toNat : Int) == 34) = L6.quoted s := by rw [L6.get_data s 0 g0, L6.quoted_head s hs0]; exact byte_eq _ 34
        clear hs0
        cases hq : L6.quoted s
        · rw [hq] at e0
          have CWX := CWW.out s hxl wr HX1.out
          cases hb : L6.whole s
          · have HR := Lib.hid (RNK.out (.inl hb))
            rw [hb] at CWX
            have CX := Lib.hid CWX
            clear RNK HEX CW CWX hq hb
            go_wp2_with (go_at_call 59; refine CX.out.mono ?_; rintro e w2 ⟨rfl, hx2⟩; obtain ⟨⟨p0, p1, p2⟩, hy2⟩ := HC.out _ hx2)
            go_ret
            exact ⟨lret_bool HR.out.symm, hy2⟩
          · have HK := Lib.hid (HEX.out hb hq)
            rw [hb] at CWX
            have CX := Lib.hid CWX
            clear RNK HEX CW CWX hq hb
            go_wp2_with (go_at_call 59; refine CX.out.mono ?_; rintro e w2 ⟨rfl, hx2⟩; obtain ⟨⟨p0, p1, p2⟩, hy2⟩ := HC.out _ hx2)
            go_roundw
            case rel => exact ⟨k + 1, by simp, HLT.out, hx2, HK.out⟩
            case measure => simp [intOf]; have := HLT.out; omega
        · rw [hq] at e0
          have HR := Lib.hid (RNK.out (.inr hq))
          clear RNK HEX CW hq
          go_wp2_with fail
          go_ret
          exact ⟨lret_bool HR.out.symm, hy1⟩
    · have hle : (x.labels.length : Int) ≤ (k : Int) := by omega
      have HLAB := Lib.hid (show ∀ j, j < x.labels.length → L6.whole (x.labels.getD j []) = true ∧ L6.quoted (x.labels.getD j []) = false from fun j hj => HN.out j (by omega))
      clear HN hk
      go_wp2_with fail
      clear q0 q1 q2 hx1 hy1
      go_loopw [4] (fun i wr => ∃ k : Nat, i = .int .i64 (k : Int) ∧ k ≤ x.args.length ∧ Below (w.heap.size + 1) w0 wr ∧ ∀ j, j < k → L6.whole (x.args.getD j []) = true) (fun i _ => x.args.length - (intOf i).toNat)
      case atStart => exact ⟨0, rfl, Nat.zero_le _, HX1.out, fun j hj => absurd hj (by omega)⟩
      case round =>
        obtain ⟨k, rfl, hk, hx1, hno⟩ := hrel
        have HN := Lib.hid hno
        have HX2 := Lib.hid hx1
        obtain ⟨⟨q0, q1, q2⟩, hy1⟩ := HC.out _ hx1
        clear hno
        by_cases hlt : k < x.args.length
        · have hlt' : (k : Int) < (x.args.length : Int) := by omega
          have hw1 : IntKind.i64.wrap ((k : Int) + 1) = (k : Int) + 1 := by have := HF.out.2.2.1; rw [IntKind.wrap_i64]; omega
          obtain ⟨g, off, c', e, hg, hcell⟩ := HA.out.at hlt
          injection e with e1 e2 e3
          subst e1 e3
          have hcr : wr.cell? ⟨g, off + k, none⟩ = some (.string ⟨(x.args.getD k []).toArray⟩) := (hy1.cell (p := ⟨g, off + k, none⟩) hg).trans hcell
          have hxl : (x.args.getD k []).length ≤ 1000000000 := HF.out.2.2.2 _ (by rw [List.getD, List.getElem?_eq_getElem hlt]; exact List.getElem_mem hlt)
          have RNK := Lib.hid (RNA.out k hlt)
          have HLT := Lib.hid hlt
          have HEX := Lib.hid (fun (h1 : L6.whole (x.args.getD k []) = true) j (hj : j < k + 1) => show L6.whole (x.args.getD j []) = true from by
            by_cases e : j = k
            · rw [e]; exact h1
            · exact HN.out j (by omega))
          clear hcell hlt
          generalize x.args.getD k [] = s at *
          have CWX := CWW.out s hxl wr HX2.out
          cases hb : L6.whole s
          · have HR := Lib.hid (RNK.out hb)
            rw [hb] at CWX
            have CX := Lib.hid CWX
            clear RNK HEX CWX hb
            go_wp2_with (go_at_call 59; refine CX.out.mono ?_; rintro e w2 ⟨rfl, hx2⟩; obtain ⟨⟨p0, p1, p2⟩, hy2⟩ := HC.out _ hx2)
            go_ret
            exact ⟨lret_bool HR.out.symm, hy2⟩
          · have HK := Lib.hid (HEX.out hb)
            rw [hb] at CWX
            have CX := Lib.hid CWX
            clear RNK HEX CWX hb
            go_wp2_with (go_at_call 59; refine CX.out.mono ?_; rintro e w2 ⟨rfl, hx2⟩; obtain ⟨⟨p0, p1, p2⟩, hy2⟩ := HC.out _ hx2)
            go_roundw
            case rel => exact ⟨k + 1, by simp, HLT.out, hx2, HK.out⟩
            case measure => simp [intOf]; have := HLT.out; omega
        · have hle : (x.args.length : Int) ≤ (k : Int) := by omega
          have HR := Lib.hid (RL.out HLAB.out (fun j hj => HN.out j (by omega)))
          have CWX := CWW.out x.word HF.out.2.1 wr HX2.out
          clear RL RNL RNA HLAB HN hk
          generalize x.args.length = n2 at *
          generalize x.word = s at *
          by_cases hw : s = []
          · subst hw
            have HR2 := Lib.hid (show L6.right x = decide (n2 = 0) from by rw [HR.out, if_pos rfl, decide_eq_decide]; exact HE.out)
            clear HR CWX
            by_cases h0 : n2 = 0
            · subst h0
              go_wp2_with fail
              go_ret
              exact ⟨lret_bool (by rw [HR2.out]; rfl), hy1⟩
            · have h0' : ((n2 : Int) == 0) = false := by rw [beq_eq_false_iff_ne]; omega
              have HR3 := Lib.hid (show L6.right x = false from by rw [HR2.out]; simpa using h0)
              clear h0
              go_wp2_with fail
              go_ret
              exact ⟨lret_bool HR3.out.symm, hy1⟩
          · have hne : (s == ([] : List UInt8)) = false := by simpa using hw
            have g0 : 0 < s.length := by cases s with | nil => exact absurd rfl hw | cons => simp
            have e0 : ((((⟨s.toArray⟩ : ByteArray)[0]'g0).toNat : Int) == 34) = L6.quoted s := by rw [L6.get_data s 0 g0, L6.quoted_head s hw]; exact byte_eq _ 34
            have e1 : ((((⟨s.toArray⟩ : ByteArray)[0]'g0).toNat : Int) != 34) = !L6.quoted s := by rw [bne, e0]
            have HR2 := Lib.hid (show L6.right x = (L6.whole s && (!L6.quoted s && !L6.label s)) from by rw [HR.out, if_neg hw])
            have CX := Lib.hid CWX
            clear HR hw CWX e0
            generalize L6.whole s = bw at *
            generalize L6.quoted s = bq at *
            generalize L6.label s = bl at *
            cases bw
            · go_wp2_with (go_at_call 59; refine CX.out.mono ?_; rintro e w2 ⟨rfl, hx2⟩; obtain ⟨⟨p0, p1, p2⟩, hy2⟩ := HC.out _ hx2)
              go_ret
              exact ⟨lret_bool (by rw [HR2.out]; rfl), hy2⟩
            · cases bq
              · go_wp2_with (first | (go_at_call 59; refine CX.out.mono ?_; rintro e w2 ⟨rfl, hx2⟩; obtain ⟨⟨p0, p1, p2⟩, hy2⟩ := HC.out _ hx2) | (go_at_call 60; refine (KL.out _).mono ?_; rintro e w6 ⟨rfl, rfl⟩))
                go_ret
                exact ⟨lret_bool (by rw [HR2.out]; rfl), hy2⟩
              · go_wp2_with (go_at_call 59; refine CX.out.mono ?_; rintro e w2 ⟨rfl, hx2⟩; obtain ⟨⟨p0, p1, p2⟩, hy2⟩ := HC.out _ hx2)
                go_ret
                exact ⟨lret_bool (by rw [HR2.out]; rfl), hy2⟩
end Go.Proofs.YtbkgpnilodjdiaaDoor
