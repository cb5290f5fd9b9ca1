/- Flow, the document's side: Plain. -/
import Derived.Test.YtfafdkbnmfpbmaaDoorF8RLine
namespace Go.Proofs.YtfafdkbnmfpbmaaDoor
open Go.RowKit Kit
set_option linter.unusedVariables false
set_option linter.unusedSimpArgs false

theorem rline8_any {B gm H : Nat} {S : F8.St} (w : World) (vl va : Value) (x : L6.Line) (h : F8.RLineIn B gm H S w vl va x) {k : F8.K} (hk : F8.kind x.word = some k) (hf : F8.fine k x = true) (hrep : ∀ n r, S.opn = (F8.wWhile, n) :: r → r ≠ []) :
    Calls Tryd.prog 38 #[.pointer (some ⟨gm, 0, none⟩), .agg #[vl, .string ⟨x.word.toArray⟩, va]] w (F8.RLinePost B gm w (F8.doc k S x)) := by
  have hx := F8.word_kind hk
  have h3 : F8.cond k = true → x.args.length = 3 := fun hc => by
    unfold F8.fine at hf
    rw [if_pos hc] at hf
    simp at hf
    exact hf.1
  cases k
  · exact rline_if w vl va x h hx (h3 rfl)
  · exact rline_else w vl va x h hx
  · exact rline_then w vl va x h hx
  · exact rline_begin w vl va x h hx
  · exact rline_while w vl va x h hx (h3 rfl)
  · exact rline_repeat w vl va x h hx hrep
  · exact rline_until w vl va x h hx (h3 rfl)
  · exact rline_again w vl va x h hx
theorem F8.rel_rep {a b : F8.Opn} (h : F8.Rel a b) : ∀ n r, b = (F8.wWhile, n) :: r → r ≠ [] := by
  intro n r e
  cases h with
  | nil => cases e
  | push w k hw h =>
    injection e with e _
    injection e with e _
    subst e
    rcases hw with hw | hw | hw
    · exact absurd hw F8.ne1.1
    · exact absurd hw F8.ne1.2.1
    · exact absurd hw F8.ne1.2.2.1
  | loop n' k h =>
    injection e with _ e
    rw [← e]
    simp
/-- The document's state goes with one of the program's. -/
def F8.Good (D : F8.St) : Prop := ∃ S, F8.Twin S D
theorem F8.doc_step {D D' : F8.St} {x : L6.Line} (h : F8.Good D) (hs : F8.step F8.doc D x = .ok D') : F8.Good D' ∧ D'.out.length ≤ D.out.length + 2 ∧ D'.opn.length ≤ D.opn.length + 1 ∧ D'.made ≤ D.made + 1 := by
  obtain ⟨S, hT⟩ := h
  rcases F8.step_twin S D x hT with ⟨e, e1, e2⟩ | ⟨S', D2, e1, e2, e3⟩
  · rw [e2] at hs; cases hs
  · rw [e2] at hs
    cases hs
    refine ⟨⟨S', e3⟩, ?_⟩
    unfold F8.step at e2
    split at e2
    · cases e2
    · cases hk : F8.kind x.word with
      | none => rw [hk] at e2; cases e2; simp
      | some k =>
        rw [hk] at e2
        dsimp only at e2
        split at e2
        · cases ho : F8.doc k D x with
          | none => rw [ho] at e2; cases e2
          | some S2 =>
            rw [ho] at e2
            cases e2
            unfold F8.doc F8.own at ho
            repeat' split at ho
            all_goals first
              | (cases ho; done)
              | (cases ho; simp_all; done)
              | (cases ho; simp_all; omega)
        · cases e2
theorem F8.doc_run (l : List L6.Line) : ∀ (n : Nat) (D D' : F8.St), F8.Good D → F8.run F8.doc n D l = .inr D' → F8.Good D' ∧ D'.out.length ≤ D.out.length + 2 * l.length ∧ D'.opn.length ≤ D.opn.length + l.length ∧ D'.made ≤ D.made + l.length := by
  induction l with
  | nil => intro n D D' hg h; cases h; simp [hg]
  | cons x t ih =>
    intro n D D' hg h
    unfold F8.run at h
    cases hs : F8.step F8.doc D x with
    | bad e => rw [hs] at h; cases h
    | ok D2 =>
      rw [hs] at h
      obtain ⟨g1, h1⟩ := F8.doc_step hg hs
      obtain ⟨g2, h2⟩ := ih _ _ _ g1 h
      refine ⟨g2, ?_⟩
      simp only [List.length_cons]
      omega
theorem F8.docs_bad {ls : List L6.Line} {n e : Nat} (h : F8.run F8.doc 0 F8.start ls = .inl (n, e)) : F8.docs ls = ([], n, e) := by unfold F8.docs; rw [h]; rfl
def F8.RPlainPost (w : World) (r : List L6.Line × Nat × Nat) (e : Ending) (w' : World) : Prop := ∃ v, e = .returned (.tuple #[v, .int .i64 (r.2.1 : Int), .int .i64 (r.2.2 : Int)]) ∧ RdL w' v r.1 ∧ Below w.heap.size w w'
theorem F8.rdl_nil (w : World) : RdL w (.slice none 0 0) [] := ⟨[], Rd.nil _ _, rfl⟩
theorem F8.rpost_bad {w w' : World} {ls : List L6.Line} {n e : Nat} {i j : Int} (h : F8.run F8.doc 0 F8.start ls = .inl (n, e)) (hi : i = n) (hj : j = e) (hb : Below w.heap.size w w') : F8.RPlainPost w (F8.docs ls) (.returned (.tuple #[.slice none 0 0, .int .i64 i, .int .i64 j])) w' := by
  rw [F8.docs_bad h, hi, hj]
  exact ⟨_, rfl, F8.rdl_nil _, hb⟩
theorem F8.mkr_start (w : World) : F8.MkR w.heap.size (w.alloc (.cells #[.slice none 0 0, .slice none 0 0, .int .i64 0] 72)) w.heap.size (w.alloc (.cells #[.slice none 0 0, .slice none 0 0, .int .i64 0] 72)).heap.size F8.start :=
  ⟨by simp, Nat.le_refl _, Nat.le_refl _, ⟨.slice none 0 0, .slice none 0 0, [], Bk.fresh w _ _, World.ownsRow_nil _ _ _ _, rfl, World.ownsRow_nil _ _ _ _, F8.Sep.nil _ _⟩⟩
theorem RdS.lt {w : World} {v : Value} {l : List (List UInt8)} (h : RdS w v l) : ∀ g off n c, v = .slice (some ⟨g, off, none⟩) n c → 0 < n → g < w.heap.size := by
  intro g off n c e hn
  obtain ⟨_, A, c', e2, _, _, h4⟩ := h
  rw [e2] at e
  injection e with e1 e3 e4
  obtain ⟨g', off', e5, hg, _⟩ := h4 (by omega)
  rw [e5] at e1
  injection e1 with e1
  injection e1 with e1
  omega
theorem F8.Z.old {w W : World} {v : Value} {l : List (List UInt8)} (h : RdS w v l) (hb : Below w.heap.size w W) : F8.Z false w.heap.size W v l := .inr ⟨rfl, h.kept hb, fun g off n c e hn => h.lt g off n c e hn⟩
theorem F8.any_made {l : List (List UInt8)} (h : ∀ j, j < l.length → F8.made (l.getD j []) = false) : l.any F8.made = false := by
  rw [List.any_eq_false]
  intro s hs
  obtain ⟨i, hi, rfl⟩ := List.mem_iff_getElem.1 hs
  have := h i hi
  rw [List.getD, List.getElem?_eq_getElem hi] at this
  simpa using this
theorem F8.some_made {l : List (List UInt8)} {j : Nat} (hj : j < l.length) (h : F8.made (l.getD j []) = true) : l.any F8.made = true := by
  rw [List.any_eq_true]
  exact ⟨l.getD j [], by rw [List.getD, List.getElem?_eq_getElem hj]; exact List.getElem_mem hj, h⟩
theorem F8.made_cons (c : UInt8) (t : List UInt8) : F8.made (c :: t) = (c == 64) := rfl
set_option maxRecDepth 100000 in
set_option maxHeartbeats 8000000 in
theorem rplain_any (v : Value) (ls : List L6.Line) (w : World) (h : RdL w v ls) (hl : ls.length ≤ 40000) (hx : ∀ x ∈ ls, x.labels.length ≤ 100000 ∧ x.args.length ≤ 100000 ∧ ∀ s ∈ x.labels, s.length ≤ 1000000000) :
    Calls Tryd.prog 13 #[v] w (F8.RPlainPost w (F8.docs ls)) := by
  have HH := Lib.hid h
  have HX := Lib.hid hx
  have HLL := Lib.hid hl
  obtain ⟨A, c, rfl⟩ := h.form
  have hm0 := F8.mkr_start w
  have hb0 : Below w.heap.size w (w.alloc (.cells #[.slice none 0 0, .slice none 0 0, .int .i64 0] 72)) := (Below.refl _ _).alloc (Nat.le_refl _) _
  have HM0 := Lib.hid hm0
  have HB0 := Lib.hid hb0
  clear h hx hl hm0 hb0
  go_enter Tryd.func13, Tryd.ntmps13
  go_wp2_with fail
  go_loopw [6] (fun i wr => ∃ (k : Nat) (S : F8.St), i = .int .i64 (k : Int) ∧ k ≤ ls.length ∧ F8.run F8.doc 0 F8.start (ls.take k) = .inr S ∧ F8.MkR w.heap.size wr w.heap.size wr.heap.size S ∧ Below w.heap.size w wr) (fun i _ => ls.length - (intOf i).toNat)
  case atStart => exact ⟨0, F8.start, rfl, Nat.zero_le _, rfl, HM0.out, HB0.out⟩
  case round =>
    obtain ⟨k, S, rfl, hk, hrun, hm, hbr⟩ := hrel
    have HRUN := Lib.hid hrun
    have HM := Lib.hid hm
    have HBR := Lib.hid hbr
    have hsz := F8.doc_run _ _ _ _ ⟨F8.start, F8.start_twin⟩ hrun
    have HGOOD := Lib.hid hsz.1
    have HSZ := Lib.hid (show S.out.length ≤ 80000 ∧ S.opn.length ≤ 40000 ∧ S.made ≤ 40000 from by have := HLL.out; have := hsz.2; simp [F8.start] at this; omega)
    clear hrun hm hbr hsz
    by_cases hlt : k < ls.length
    · have hlt' : (k : Int) < (ls.length : Int) := by omega
      have hw1 : IntKind.i64.wrap ((k : Int) + 1) = (k : Int) + 1 := by have := HLL.out; rw [IntKind.wrap_i64]; omega
      have HTK := Lib.hid (F8.run_take F8.doc ls hlt 0 F8.start S HRUN.out)
      obtain ⟨g, off, c', va1, va2, e, hg, c0, c1, c2, r1, r2⟩ := HH.out.at hlt
      injection e with e1 e2 e3
      subst e1 e3
      have HLT := Lib.hid (show k + 1 ≤ ls.length from hlt)
      have f1 := HX.out _ (List.getElem_mem hlt)
      generalize ls[k] = X at *
      obtain ⟨xl, xw, xa⟩ := X
      obtain ⟨B1, cc1, rfl⟩ := r1.form
      obtain ⟨B2, cc2, rfl⟩ := r2.form
      dsimp only at c0 c1 c2 r1 r2 f1
      have HF := Lib.hid f1
      have HR1 := Lib.hid r1
      have HR2 := Lib.hid r2
      have HCC := Lib.hid (fun W (hW : Below w.heap.size w W) => show W.cell? ⟨g, off + k * 3, none⟩ = some (.slice B1 xl.length cc1) ∧ W.cell? ⟨g, off + k * 3 + 1, none⟩ = some (.string ⟨xw.toArray⟩) ∧ W.cell? ⟨g, off + k * 3 + 2, none⟩ = some (.slice B2 xa.length cc2) from ⟨(hW.cell (p := ⟨g, _, none⟩) hg).trans c0, (hW.cell (p := ⟨g, _, none⟩) hg).trans c1, (hW.cell (p := ⟨g, _, none⟩) hg).trans c2⟩)
      obtain ⟨q0, q1, q2⟩ := HCC.out _ HBR.out
      clear c0 c1 c2 r1 r2 f1
      go_wp2_with fail
      go_loop [7] (fun i => ∃ j : Nat, i = .int .i64 (j : Int) ∧ j ≤ xl.length ∧ ∀ m, m < j → F8.made (xl.getD m []) = false) (fun i => xl.length - (intOf i).toNat)
      case atStart => exact ⟨0, rfl, Nat.zero_le _, fun m hm => absurd hm (by omega)⟩
      case round =>
        obtain ⟨j, rfl, hj, hno⟩ := hrel
        have HN := Lib.hid hno
        clear hno
        by_cases hjl : j < xl.length
        · have hjl' : (j : Int) < (xl.length : Int) := by omega
          have hwj : IntKind.i64.wrap ((j : Int) + 1) = (j : Int) + 1 := by have := HF.out.1; rw [IntKind.wrap_i64]; omega
          obtain ⟨gl, ofl, cl, e, hgl, hcl⟩ := HR1.out.at hjl
          injection e with e1 e2 e3
          subst e1 e3
          have hcr : wr.cell? ⟨gl, ofl + j, none⟩ = some (.string ⟨(xl.getD j []).toArray⟩) := (HBR.out.cell (p := ⟨gl, ofl + j, none⟩) hgl).trans hcl
          have HJL := Lib.hid (show j + 1 ≤ xl.length from hjl)
          have HNK := Lib.hid (fun (h : F8.made (xl.getD j []) = false) m (hm : m < j + 1) => show F8.made (xl.getD m []) = false from by
            by_cases e : m = j
            · rw [e]; exact h
            · exact HN.out m (by omega))
          have HSM := Lib.hid (fun (h : F8.made (xl.getD j []) = true) => F8.some_made hjl h)
          clear hcl hjl
          generalize xl.getD j [] = y at *
          cases y with
          | nil =>
            have HK := Lib.hid (HNK.out rfl)
            go_wp2_with fail
            go_round
            case rel => exact ⟨j + 1, by simp, HJL.out, HK.out⟩
            case measure => have := HJL.out; simp [intOf]; omega
          | cons cb tb =>
            have h0 : 0 < (cb :: tb).length := by simp
            have hpos : (0 : Int) < ((cb :: tb).length : Int) := by rw [List.length_cons]; omega
            have e64 : ((((⟨(cb :: tb).toArray⟩ : ByteArray)[0]'h0).toNat : Int) == 64) = (cb == 64) := by rw [L6.get_data (cb :: tb) 0 h0]; exact byte_eq _ 64
            rw [F8.made_cons] at HNK HSM
            have HFL := Lib.hid (show xl.length ≤ 100000 from HF.out.1)
            cases hc : (cb == 64)
            · rw [hc] at e64
              have HK := Lib.hid (HNK.out hc)
              clear hc HNK HSM
              go_wp2_with fail
              go_round
              case rel => exact ⟨j + 1, by simp, HJL.out, HK.out⟩
              case measure => have := HJL.out; simp [intOf]; omega
            · rw [hc] at e64
              have HK := Lib.hid (HSM.out hc)
              have HST := Lib.hid (show F8.step F8.doc S ⟨xl, xw, xa⟩ = .bad 41 from by unfold F8.step; rw [if_pos HK.out])
              have HBAD := Lib.hid (HTK.out.2 41 HST.out)
              clear hc HNK HSM
              go_wp2_with fail
              go_ret3
              exact F8.rpost_bad HBAD.out (by simp) rfl HBR.out
        · obtain rfl : j = xl.length := by omega
          have hmd := F8.any_made HN.out
          have HLS := Lib.hid (show F8.step F8.doc S ⟨xl, xw, xa⟩ = (match F8.kind xw with | none => .ok ⟨S.out ++ [⟨xl, xw, xa⟩], S.opn, S.made⟩ | some k => if F8.fine k ⟨xl, xw, xa⟩ then (match F8.doc k S ⟨xl, xw, xa⟩ with | some S' => .ok S' | none => .bad 44) else .bad 40) from by unfold F8.step; rw [if_neg (by rw [hmd]; decide)]; rfl)
          have HZL := Lib.hid (F8.Z.old HR1.out HBR.out)
          have HZA := Lib.hid (F8.Z.old HR2.out HBR.out)
          have CA := Lib.hid (fun W => rasks_any xw W)
          clear hmd HN
          cases hkd : F8.kind xw with
          | none =>
            have ha : F8.asksV xw = (false, false) := by unfold F8.asksV; rw [hkd]
            rw [ha] at CA
            have hst : F8.step F8.doc S ⟨xl, xw, xa⟩ = .ok ⟨S.out ++ [⟨xl, xw, xa⟩], S.opn, S.made⟩ := by rw [HLS.out, hkd]
            have hnx := HTK.out.1
            rw [hst] at hnx
            have HNX := Lib.hid hnx
            obtain ⟨AM, cA, cs, k0', f0, hkk, hoo1, hs1, hz1, hput⟩ := F8.Mk.room F8.ur rlrt HM.out ⟨xl, xw, xa⟩ HZL.out HZA.out (fun e => by cases e)
            have ka : (wr.alloc (.cells #[.slice B1 xl.length cc1, .string ⟨xw.toArray⟩, .slice B2 xa.length cc2] 41)).cell? ⟨w.heap.size, 0, none⟩ = some (.slice AM S.out.length cA) := hkk _ ((Below.refl _ _).alloc (Nat.le_refl _) _)
            clear hkk
            have HO1 := Lib.hid hoo1
            have HS1 := Lib.hid hs1
            have HZZ1 := Lib.hid hz1
            have HPUT := Lib.hid hput
            have HL1 := Lib.hid (show (S.out.length + 1) * 64 ≤ 140737488355328 by have := HSZ.out.1; omega)
            have HL2 := Lib.hid (show S.out.length + 1 ≤ maxLen by have := HSZ.out.1; unfold maxLen; omega)
            clear hoo1 hs1 hz1 hput hnx hst hkd ha
            go_wp2_with (go_at_call 37; refine (CA.out _).mono ?_; rintro e w' ⟨rfl, rfl⟩)
            go_region_law (refine step_appendRB (by rfl) _ _ _ _ (by rfl) rlrt (by decide) w.heap.size (.slice AM S.out.length cA) (by rfl) S.out.length cs HO1.out _ (by rfl) 1 [.slice B1 xl.length cc1, .string ⟨xw.toArray⟩, .slice B2 xa.length cc2] HS1.out HL1.out HL2.out HZZ1.out ?_; intro v6 w6 ho6 hb6 hg6 hv6; obtain ⟨⟨A6, c6, rfl⟩, k6, f6, HM6⟩ := HPUT.out v6 w6 ho6 hb6 hg6 hv6)
            all_goals go_wp2_with fail
            all_goals go_roundw
            all_goals first
              | (case rel => exact ⟨k + 1, _, by simp, HLT.out, HNX.out, HM6.out.1.later HM6.out.1.le (Nat.le_refl _), HBR.out.trans HM6.out.2.below⟩)
              | (case measure => have := HLT.out; simp [intOf]; omega)
          | some kd =>
            have ha : F8.asksV xw = (F8.cond kd, true) := by unfold F8.asksV; rw [hkd]
            rw [ha] at CA
            have hst0 : F8.step F8.doc S ⟨xl, xw, xa⟩ = (if F8.fine kd ⟨xl, xw, xa⟩ then (match F8.doc kd S ⟨xl, xw, xa⟩ with | some S' => .ok S' | none => .bad 44) else .bad 40) := by rw [HLS.out, hkd]
            have HKD := Lib.hid hkd
            have hfe : F8.fine kd ⟨xl, xw, xa⟩ = if F8.cond kd then decide (xa.length = 3) && (F8.opp (xa.getD 1 [])).isSome else decide (xa.length = 0) := rfl
            have hrep := F8.rel_rep HGOOD.out.choose_spec.2.2
            have hin : F8.RLineIn w.heap.size w.heap.size wr.heap.size S wr (.slice B1 xl.length cc1) (.slice B2 xa.length cc2) ⟨xl, xw, xa⟩ :=
              ⟨HM.out, HZL.out, HZA.out, HF.out.1, Nat.le_trans HSZ.out.1 (by decide), Nat.le_trans HSZ.out.2.1 (by decide), Nat.le_trans HSZ.out.2.2 (by decide)⟩
            have HIN := Lib.hid (fun W (hb : Below wr.heap.size wr W) => show F8.RLineIn w.heap.size w.heap.size wr.heap.size S W (.slice B1 xl.length cc1) (.slice B2 xa.length cc2) ⟨xl, xw, xa⟩ from
              ⟨HM.out.kept hb, HZL.out.stay (F8.Stay.of (gm := w.heap.size) hb HM.out.size HM.out.lt), HZA.out.stay (F8.Stay.of (gm := w.heap.size) hb HM.out.size HM.out.lt), HF.out.1, Nat.le_trans HSZ.out.1 (by decide), Nat.le_trans HSZ.out.2.1 (by decide), Nat.le_trans HSZ.out.2.2 (by decide)⟩)
            have HREP := Lib.hid hrep
            clear hin hrep ha hkd
            cases hcd : F8.cond kd
            · rw [hcd] at CA hfe
              rw [if_neg (by decide)] at hfe
              by_cases hz : xa.length = 0
              · have hf : F8.fine kd ⟨xl, xw, xa⟩ = true := by rw [hfe]; simpa using hz
                rw [if_pos hf] at hst0
                obtain rfl : xa = [] := List.eq_nil_of_length_eq_zero hz
                have hcl := fun W hb => rline8_any W _ _ ⟨xl, xw, []⟩ (HIN.out W hb) HKD.out hf HREP.out
                cases ho : F8.doc kd S ⟨xl, xw, []⟩ with
                | none =>
                  rw [ho] at hst0 hcl
                  have CLN := Lib.hid hcl
                  have HBAD := Lib.hid (HTK.out.2 44 hst0)
                  clear hst0 hf hcl ho hfe hcd hz
                  go_wp2_with (first | (go_at_call 37; refine (CA.out _).mono ?_; rintro e w' ⟨rfl, rfl⟩) | (go_at_call 38; refine (CLN.out _ (Below.refl _ _)).mono ?_; rintro e w6 ⟨rfl, hb6⟩))
                  go_ret3
                  exact F8.rpost_bad HBAD.out (by simp) rfl (HBR.out.trans hb6)
                | some S' =>
                  rw [ho] at hst0 hcl
                  have CLN := Lib.hid hcl
                  have hnx := HTK.out.1
                  rw [hst0] at hnx
                  have HNX := Lib.hid hnx
                  clear hst0 hf hcl ho hfe hcd hz hnx
                  go_wp2_with (first | (go_at_call 37; refine (CA.out _).mono ?_; rintro e w' ⟨rfl, rfl⟩) | (go_at_call 38; refine (CLN.out _ (Below.refl _ _)).mono ?_; rintro e w6 ⟨rfl, hm6, hs6⟩; have HM6 := Lib.hid hm6; have HS6 := Lib.hid hs6; clear hm6 hs6))
                  go_roundw
                  case rel => exact ⟨k + 1, _, by simp, HLT.out, HNX.out, HM6.out, HBR.out.trans HS6.out.below⟩
                  case measure => have := HLT.out; simp [intOf]; omega
              · have hf : F8.fine kd ⟨xl, xw, xa⟩ = false := by rw [hfe]; simpa using hz
                rw [if_neg (by rw [hf]; decide)] at hst0
                have hg0 : (0 : Int) < (xa.length : Int) := by omega
                have HBAD := Lib.hid (HTK.out.2 40 hst0)
                clear hst0 hf hfe hcd hz HIN HLS HTK HREP HZA HR2 HF
                generalize xa.length = n2 at *
                go_wp2_with (go_at_call 37; refine (CA.out _).mono ?_; rintro e w' ⟨rfl, rfl⟩)
                go_ret3
                exact F8.rpost_bad HBAD.out (by simp) rfl HBR.out
            · rw [hcd] at CA hfe
              rw [if_pos rfl] at hfe
              by_cases h3 : xa.length = 3
              · obtain ⟨g3, o3, c3, e3, hg3, a0, a1, a2⟩ := F8.three' HR2.out h3
                injection e3 with e31 e32 e33
                subst e31 e33
                have a1' : wr.cell? ⟨g3, o3 + 1, none⟩ = some (.string ⟨(xa.getD 1 []).toArray⟩) := (HBR.out.cell (p := ⟨g3, o3 + 1, none⟩) hg3).trans a1
                have CO := Lib.hid (fun W => ropp_any (xa.getD 1 []) W)
                have hzi : (xa.length : Int) = 3 := by omega
                rw [decide_eq_true h3, Bool.true_and] at hfe
                have h13 : (1 : Int) < (xa.length : Int) := by omega
                have hb3 : ((xa.length : Int) != 3) = false := by rw [hzi]; rfl
                clear a0 a1 a2 h3 hzi e32
                cases hop : (F8.opp (xa.getD 1 [])).isSome
                · rw [hop] at CO hfe
                  rw [if_neg (by rw [hfe]; decide)] at hst0
                  have HBAD := Lib.hid (HTK.out.2 40 hst0)
                  clear hst0 hfe hcd hop
                  generalize xa.getD 1 [] = y1 at *
                  generalize (F8.opp y1).getD [] = o at *
                  go_wp2_with (first | (go_at_call 37; refine (CA.out _).mono ?_; rintro e w' ⟨rfl, rfl⟩) | (go_at_call 15; refine (CO.out _).mono ?_; rintro e w5 ⟨rfl, hb5⟩))
                  go_ret3
                  exact F8.rpost_bad HBAD.out (by simp) rfl (HBR.out.trans (hb5.mono HBR.out.size))
                · rw [hop] at CO hfe
                  rw [if_pos hfe] at hst0
                  have hcl := fun W hb => rline8_any W _ _ ⟨xl, xw, xa⟩ (HIN.out W hb) HKD.out hfe HREP.out
                  cases ho : F8.doc kd S ⟨xl, xw, xa⟩ with
                  | none =>
                    rw [ho] at hst0 hcl
                    have CLN := Lib.hid hcl
                    have HBAD := Lib.hid (HTK.out.2 44 hst0)
                    clear hst0 hfe hcl ho hcd hop
                    generalize xa.getD 1 [] = y1 at *
                    generalize (F8.opp y1).getD [] = o at *
                    go_wp2_with (first | (go_at_call 37; refine (CA.out _).mono ?_; rintro e w' ⟨rfl, rfl⟩) | (go_at_call 15; refine (CO.out _).mono ?_; rintro e w5 ⟨rfl, hb5⟩; obtain ⟨p0, p1, p2⟩ := HCC.out _ (HBR.out.trans (hb5.mono HBR.out.size)); have HB5 := Lib.hid hb5; clear hb5) | (go_at_call 38; refine (CLN.out _ HB5.out).mono ?_; rintro e w6 ⟨rfl, hb6⟩))
                    go_ret3
                    exact F8.rpost_bad HBAD.out (by simp) rfl ((HBR.out.trans (HB5.out.mono HBR.out.size)).trans hb6)
                  | some S' =>
                    rw [ho] at hst0 hcl
                    have CLN := Lib.hid hcl
                    have hnx := HTK.out.1
                    rw [hst0] at hnx
                    have HNX := Lib.hid hnx
                    clear hst0 hfe hcl ho hcd hop hnx
                    generalize xa.getD 1 [] = y1 at *
                    generalize (F8.opp y1).getD [] = o at *
                    go_wp2_with (first | (go_at_call 37; refine (CA.out _).mono ?_; rintro e w' ⟨rfl, rfl⟩) | (go_at_call 15; refine (CO.out _).mono ?_; rintro e w5 ⟨rfl, hb5⟩; obtain ⟨p0, p1, p2⟩ := HCC.out _ (HBR.out.trans (hb5.mono HBR.out.size)); have HB5 := Lib.hid hb5; clear hb5) | (go_at_call 38; refine (CLN.out _ HB5.out).mono ?_; rintro e w6 ⟨rfl, hm6, hs6⟩; have HM6 := Lib.hid hm6; have HS6 := Lib.hid hs6; clear hm6 hs6))
                    go_roundw
                    case rel => exact ⟨k + 1, _, by simp, HLT.out, HNX.out, HM6.out, (HBR.out.trans (HB5.out.mono HBR.out.size)).trans HS6.out.below⟩
                    case measure => have := HLT.out; simp [intOf]; omega
              · have hf : F8.fine kd ⟨xl, xw, xa⟩ = false := by rw [hfe, decide_eq_false h3]; rfl
                rw [if_neg (by rw [hf]; decide)] at hst0
                have hb3 : ((xa.length : Int) != 3) = true := by rw [bne_iff_ne]; omega
                have HBAD := Lib.hid (HTK.out.2 40 hst0)
                clear hst0 hf hfe hcd h3
                go_wp2_with (go_at_call 37; refine (CA.out _).mono ?_; rintro e w' ⟨rfl, rfl⟩)
                go_ret3
                exact F8.rpost_bad HBAD.out (by simp) rfl HBR.out
    · obtain rfl : k = ls.length := by omega
      have hrun := HRUN.out
      rw [List.take_length] at hrun
      obtain ⟨so, sp, sm⟩ := S
      obtain ⟨vo, vp, cs, h1, h2, h3, h4, h5⟩ := HM.out.obj
      dsimp only at h1 h2 h3 h4
      have c0 := h1.cell 0
      have c1 := h1.cell 1
      obtain ⟨A1, cc1, rfl⟩ := (Rd.of_own h2).form
      obtain ⟨A2, cc2, rfl⟩ := (Rd.of_own h4).form
      have HOUT := Lib.hid (show RdL wr (.slice A1 so.length cc1) so from ⟨cs, Rd.of_own h2, F8.Ls.rd (fun _ _ hz => hz.rd) h3⟩)
      have hw1 : IntKind.i64.wrap ((ls.length : Int) + 1) = (ls.length : Int) + 1 := by have := HLL.out; rw [IntKind.wrap_i64]; omega
      cases sp with
      | nil =>
        have HP := Lib.hid (show F8.docs ls = (so, 0, 0) from by unfold F8.docs; rw [hrun]; rfl)
        clear h1 h2 h3 h4 h5 hrun
        go_wp2_with fail
        go_ret3
        rw [HP.out]
        exact ⟨_, rfl, HOUT.out, HBR.out⟩
      | cons q r =>
        have HP := Lib.hid (show F8.docs ls = ([], ls.length + 1, 44) from by unfold F8.docs; rw [hrun]; rfl)
        have hpos : (0 : Int) < ((q :: r).length : Int) := by rw [List.length_cons]; omega
        generalize (q :: r).length = np at *
        clear h1 h2 h3 h4 h5 hrun
        go_wp2_with fail
        go_ret3
        rw [HP.out]
        exact ⟨_, by simp, F8.rdl_nil _, HBR.out⟩
end Go.Proofs.YtfafdkbnmfpbmaaDoor
