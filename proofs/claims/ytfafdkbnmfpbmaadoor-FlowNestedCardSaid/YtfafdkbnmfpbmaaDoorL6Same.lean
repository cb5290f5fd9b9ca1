/- same, Same. -/
import Derived.Test.YtfafdkbnmfpbmaaDoorL6Base
import Derived.Deep.RegionHeld3
import Derived.Test.YtfafdkbnmfpbmaaDoorKitQ
namespace Go.Proofs.YtfafdkbnmfpbmaaDoor
open Go.RowKit Kit
set_option linter.unusedVariables false
set_option linter.unusedSimpArgs false

theorem list_step {l l' : List (List UInt8)} {k : Nat} (hl : l.length = l'.length) (h : ∀ j, j < k → l.getD j [] = l'.getD j []) (hk : l.length ≤ k) : l = l' := by
  refine List.ext_getElem hl fun j h1 h2 => ?_
  have := h j (by omega)
  simpa [List.getD, h1, h2] using this
set_option maxHeartbeats 1000000 in
theorem rsame_any (a b : Value) (l l' : List (List UInt8)) (w : World) (ha : RdS w a l) (hb : RdS w b l') (hl : l.length ≤ 1000000000) (hl' : l'.length ≤ 1000000000) :
    Calls Tryd.prog 39 #[a, b] w fun e w' => e = .returned (.bool (decide (l = l'))) ∧ ∃ n, w' = w.drewN n := by
  have HA := Lib.hid ha
  have HB := Lib.hid hb
  obtain ⟨A, ca, rfl⟩ := ha.form
  obtain ⟨B, cb, rfl⟩ := hb.form
  clear ha hb
  go_enter Tryd.func39, Tryd.ntmps39
  by_cases hlen : l.length = l'.length
  · have hlen' : ((l.length : Int) != (l'.length : Int)) = false := by rw [hlen]; simp
    have HLEN := Lib.hid hlen
    have HLL := Lib.hid hl
    clear hl hl' hlen
    go_wp2_with fail
    go_loopw [5] (fun i wr => ∃ k n : Nat, i = .int .i64 (k : Int) ∧ wr = w.drewN n ∧ k ≤ l.length ∧ ∀ j, j < k → l.getD j [] = l'.getD j []) (fun i _ => match i with | .int _ n => l.length - n.toNat | _ => 0)
    case atStart => exact ⟨0, 0, rfl, rfl, Nat.zero_le _, fun j hj => absurd hj (by omega)⟩
    case round =>
      obtain ⟨k, n, rfl, rfl, hk, hj⟩ := hrel
      have HJ := Lib.hid hj
      clear hj hlen'
      by_cases hlt : k < l.length
      · have hlt' : (k : Int) < (l.length : Int) := by omega
        have hltb : (k : Int) < (l'.length : Int) := by have := HLEN.out; omega
        have hw1 : IntKind.i64.wrap ((k : Int) + 1) = (k : Int) + 1 := by have := HLL.out; go_bits; exact trivial
        obtain ⟨ga, oa, ca', e, hga, hca⟩ := HA.out.at hlt
        injection e with e1 e2 e3
        subst e1 e3
        obtain ⟨gb, ob, cb', e, hgb, hcb⟩ := HB.out.at (k := k) (by have := HLEN.out; omega)
        injection e with e1 e2 e3
        subst e1 e3
        have c1 : (w.drewN n).drew.cell? ⟨ga, oa + k, none⟩ = some (.string ⟨(l.getD k []).toArray⟩) := hca
        have c2 : (w.drewN n).drew.cell? ⟨gb, ob + k, none⟩ = some (.string ⟨(l'.getD k []).toArray⟩) := hcb
        have HLT := Lib.hid hlt
        clear hca hcb hlt
        by_cases hx : l.getD k [] = l'.getD k []
        · have HX := Lib.hid hx
          rw [← hx] at c2
          clear hx
          generalize l.getD k [] = x at c1 c2
          go_wp2_with fail
          go_region_held3 (fun W' => W'.cell? ⟨ga, oa + k, none⟩ = some (.string ⟨x.toArray⟩) ∧ W'.cell? ⟨gb, ob + k, none⟩ = some (.string ⟨x.toArray⟩)) (exact ⟨c1, c2⟩) (fail)
          go_wp2_with fail
          refine ⟨⟨k + 1, n + 1, by simp, rfl, HLT.out, fun j hj => ?_⟩, by have := HLT.out; simp; omega⟩
          by_cases e : j = k
          · rw [e]; exact HX.out
          · exact HJ.out j (by omega)
        · have HX := Lib.hid hx
          have hxx : ((l.getD k []) == (l'.getD k [])) = false := by rw [beq_eq_false_iff_ne]; exact hx
          have HR := Lib.hid (show decide (l = l') = false from by rw [decide_eq_false_iff_not]; intro e; exact hx (by rw [e]))
          clear hx
          generalize l.getD k [] = x at c1 hxx HX
          generalize l'.getD k [] = y at c2 hxx HX
          go_wp2_with fail
          go_region_held3 (fun W' => W'.cell? ⟨ga, oa + k, none⟩ = some (.string ⟨x.toArray⟩) ∧ W'.cell? ⟨gb, ob + k, none⟩ = some (.string ⟨y.toArray⟩)) (exact ⟨c1, c2⟩) (fail)
          go_wp2_with fail
          go_ret
          exact ⟨lret_bool HR.out.symm, n + 1, rfl⟩
      · have hge : (l.length : Int) ≤ (k : Int) := by omega
        have HR := Lib.hid (show decide (l = l') = true from by rw [decide_eq_true_iff]; exact list_step HLEN.out HJ.out (by omega))
        go_wp2_with fail
        go_ret
        exact ⟨lret_bool HR.out.symm, n, rfl⟩
  · have hlen' : ((l.length : Int) != (l'.length : Int)) = true := by rw [bne_iff_ne]; omega
    have HR := Lib.hid (show decide (l = l') = false from by rw [decide_eq_false_iff_not]; intro e; exact hlen (by rw [e]))
    go_wp2_with fail
    go_ret
    exact ⟨lret_bool HR.out.symm, 0, rfl⟩
theorem rsame_below (a b : Value) (l l' : List (List UInt8)) (w : World) (ha : RdS w a l) (hb : RdS w b l') (hl : l.length ≤ 1000000000) (hl' : l'.length ≤ 1000000000) :
    Calls Tryd.prog 39 #[a, b] w fun e w' => e = .returned (.bool (decide (l = l'))) ∧ Below w.heap.size w w' :=
  (rsame_any a b l l' w ha hb hl hl').mono fun e w' h => by obtain ⟨h1, n, rfl⟩ := h; exact ⟨h1, isDrewN6 (Below.refl _ _) n⟩
/-- These cells read as these lines. -/
def LinesRd (w : World) : List L6.Line → List Value → Prop
  | [], cs => cs = []
  | x :: t, cs => ∃ vl va r, cs = vl :: .string ⟨x.word.toArray⟩ :: va :: r ∧ RdS w vl x.labels ∧ RdS w va x.args ∧ LinesRd w t r
theorem LinesV.rd {base : Nat} {w : World} : ∀ {ls : List L6.Line} {cs : List Value}, LinesV base w ls cs → LinesRd w ls cs
  | [], _, e => e
  | _ :: _, _, ⟨vl, va, r, e, h1, h2, h3⟩ => ⟨vl, va, r, e, h1.rd, h2.rd, LinesV.rd h3⟩
theorem LinesRd.kept {w w' : World} (hb : Below w.heap.size w w') : ∀ {ls : List L6.Line} {cs : List Value}, LinesRd w ls cs → LinesRd w' ls cs
  | [], _, e => e
  | _ :: _, _, ⟨vl, va, r, e, h1, h2, h3⟩ => ⟨vl, va, r, e, h1.kept hb, h2.kept hb, LinesRd.kept hb h3⟩
theorem LinesRd.at {w : World} : ∀ {ls : List L6.Line} {cs : List Value} (k : Nat) (hk : k < ls.length), LinesRd w ls cs → ∃ vl va, cs[k * 3]? = some vl ∧ cs[k * 3 + 1]? = some (.string ⟨ls[k].word.toArray⟩) ∧ cs[k * 3 + 2]? = some va ∧ RdS w vl ls[k].labels ∧ RdS w va ls[k].args
  | [], _, k, hk, _ => by simp at hk
  | x :: t, _, 0, _, ⟨vl, va, r, e, h1, h2, h3⟩ => by subst e; exact ⟨vl, va, rfl, rfl, rfl, h1, h2⟩
  | x :: t, _, k + 1, hk, ⟨vl, va, r, e, h1, h2, h3⟩ => by
    subst e
    obtain ⟨ul, ua, g1, g2, g3, g4, g5⟩ := LinesRd.at k (by simpa using hk) h3
    refine ⟨ul, ua, ?_, ?_, ?_, by simpa using g4, by simpa using g5⟩
    · rw [show (k + 1) * 3 = k * 3 + 3 by omega]; simpa using g1
    · rw [show (k + 1) * 3 + 1 = k * 3 + 1 + 3 by omega]; simpa using g2
    · rw [show (k + 1) * 3 + 2 = k * 3 + 2 + 3 by omega]; simpa using g3
def RdL (w : World) (v : Value) (ls : List L6.Line) : Prop := ∃ cs, Rd w 3 v ls.length cs ∧ LinesRd w ls cs
theorem ROwnL.rd {base : Nat} {w : World} {v : Value} {ls : List L6.Line} (h : ROwnL base w v ls) : RdL w v ls := by
  obtain ⟨cs, h1, h2⟩ := h
  exact ⟨cs, Rd.of_own h1, h2.rd⟩
theorem OwnL.rd {base : Nat} {w : World} {v : Value} {ls : List L6.Line} (h : OwnL base w v ls) : RdL w v ls := by
  obtain ⟨cs, h1, h2⟩ := h
  exact ⟨cs, Rd.of_own h1, h2.rd⟩
theorem RdL.kept {w w' : World} {v : Value} {ls : List L6.Line} (h : RdL w v ls) (hb : Below w.heap.size w w') : RdL w' v ls := by
  obtain ⟨cs, h1, h2⟩ := h
  exact ⟨cs, h1.kept hb, h2.kept hb⟩
theorem RdL.form {w : World} {v : Value} {ls : List L6.Line} (h : RdL w v ls) : ∃ A c, v = .slice A ls.length c := by
  obtain ⟨cs, h1, _⟩ := h
  exact h1.form
/-- The k-th line. -/
theorem RdL.at {w : World} {v : Value} {ls : List L6.Line} (h : RdL w v ls) {k : Nat} (hk : k < ls.length) : ∃ g off c vl va, v = .slice (some ⟨g, off, none⟩) ls.length c ∧ g < w.heap.size ∧
    w.cell? ⟨g, off + k * 3, none⟩ = some vl ∧ w.cell? ⟨g, off + k * 3 + 1, none⟩ = some (.string ⟨ls[k].word.toArray⟩) ∧ w.cell? ⟨g, off + k * 3 + 2, none⟩ = some va ∧ RdS w vl ls[k].labels ∧ RdS w va ls[k].args := by
  obtain ⟨cs, ⟨hl, A, c, rfl, h2, h3, h4⟩, hr⟩ := h
  obtain ⟨g, off, rfl, hg, hc⟩ := h4 (by omega)
  obtain ⟨vl, va, e0, e1, e2, r1, r2⟩ := hr.at k hk
  exact ⟨g, off, c, vl, va, rfl, hg, hc _ _ e0, hc _ _ e1, hc _ _ e2, r1, r2⟩
theorem lines_step {l l' : List L6.Line} {k : Nat} (hl : l.length = l'.length) (h : ∀ j (h1 : j < l.length) (h2 : j < l'.length), j < k → l[j] = l'[j]) (hk : l.length ≤ k) : l = l' :=
  List.ext_getElem hl fun j h1 h2 => h j h1 h2 (by omega)
def L6.Line.fits (x : L6.Line) : Prop := x.labels.length ≤ 1000000000 ∧ x.args.length ≤ 1000000000
theorem L6.line_ne_word {x y : L6.Line} (h : x.word ≠ y.word) : x ≠ y := fun e => h (by rw [e])
theorem L6.line_ne_labels {x y : L6.Line} (h : x.labels ≠ y.labels) : x ≠ y := fun e => h (by rw [e])
theorem L6.line_ne_args {x y : L6.Line} (h : x.args ≠ y.args) : x ≠ y := fun e => h (by rw [e])
theorem lines_ne {l l' : List L6.Line} {k : Nat} (h1 : k < l.length) (h2 : k < l'.length) (h : l[k] ≠ l'[k]) : decide (l = l') = false := by
  rw [decide_eq_false_iff_not]; intro e; subst e; exact h rfl
set_option maxRecDepth 100000 in
set_option maxHeartbeats 4000000 in
theorem rSame_any (a b : Value) (ls ls' : List L6.Line) (w : World) (ha : RdL w a ls) (hb : RdL w b ls') (hl : ls.length ≤ 1000000000) (hl' : ls'.length ≤ 1000000000) (hs : ∀ x ∈ ls, x.fits) (hs' : ∀ x ∈ ls', x.fits) :
    Calls Tryd.prog 16 #[a, b] w fun e w' => e = .returned (.bool (decide (ls = ls'))) ∧ Below w.heap.size w w' := by
  have HA := Lib.hid ha
  have HB := Lib.hid hb
  have HS := Lib.hid hs
  have HS' := Lib.hid hs'
  obtain ⟨A, ca, rfl⟩ := ha.form
  obtain ⟨B, cb, rfl⟩ := hb.form
  clear ha hb hs hs'
  go_enter Tryd.func16, Tryd.ntmps16
  by_cases hlen : ls.length = ls'.length
  · have hlen' : ((ls.length : Int) != (ls'.length : Int)) = false := by rw [hlen]; simp
    have HLEN := Lib.hid hlen
    have HLL := Lib.hid hl
    clear hl hl' hlen
    go_wp2_with fail
    go_loopw [5] (fun i wr => ∃ k : Nat, i = .int .i64 (k : Int) ∧ Below w.heap.size w wr ∧ k ≤ ls.length ∧ ∀ j (h1 : j < ls.length) (h2 : j < ls'.length), j < k → ls[j] = ls'[j]) (fun i _ => match i with | .int _ n => ls.length - n.toNat | _ => 0)
    case atStart => exact ⟨0, rfl, Below.refl _ _, Nat.zero_le _, fun j _ _ hj => absurd hj (by omega)⟩
    case round =>
      obtain ⟨k, rfl, hbr, hk, hj⟩ := hrel
      have HJ := Lib.hid hj
      have HBR := Lib.hid hbr
      clear hj hlen' hbr
      by_cases hlt : k < ls.length
      · have hlt' : (k : Int) < (ls.length : Int) := by omega
        have hltc : k < ls'.length := by have := HLEN.out; omega
        have hltb : (k : Int) < (ls'.length : Int) := by omega
        have hw1 : IntKind.i64.wrap ((k : Int) + 1) = (k : Int) + 1 := by have := HLL.out; go_bits; exact trivial
        obtain ⟨ga, oa, ca', va1, va2, e, hga, c0, c1, c2, r1, r2⟩ := HA.out.at hlt
        injection e with e1 e2 e3
        subst e1 e3
        obtain ⟨gb, ob, cb', vb1, vb2, e, hgb, d0, d1, d2, s1, s2⟩ := HB.out.at hltc
        injection e with e1 e2 e3
        subst e1 e3
        have HCC : Hid (∀ W', Below w.heap.size w W' → (W'.cell? ⟨ga, oa + k * 3, none⟩ = some va1 ∧ W'.cell? ⟨ga, oa + k * 3 + 1, none⟩ = some (.string ⟨(ls[k]).word.toArray⟩) ∧ W'.cell? ⟨ga, oa + k * 3 + 2, none⟩ = some va2) ∧ (W'.cell? ⟨gb, ob + k * 3, none⟩ = some vb1 ∧ W'.cell? ⟨gb, ob + k * 3 + 1, none⟩ = some (.string ⟨(ls'[k]).word.toArray⟩) ∧ W'.cell? ⟨gb, ob + k * 3 + 2, none⟩ = some vb2)) :=
          Lib.hid fun W' hb => ⟨⟨(hb.cell (p := ⟨ga, _, none⟩) hga).trans c0, (hb.cell (p := ⟨ga, _, none⟩) hga).trans c1, (hb.cell (p := ⟨ga, _, none⟩) hga).trans c2⟩, (hb.cell (p := ⟨gb, _, none⟩) hgb).trans d0, (hb.cell (p := ⟨gb, _, none⟩) hgb).trans d1, (hb.cell (p := ⟨gb, _, none⟩) hgb).trans d2⟩
        have f1 := HS.out _ (List.getElem_mem hlt)
        have f2 := HS'.out _ (List.getElem_mem hltc)
        have K1 := Lib.hid (fun W' (hb : Below w.heap.size w W') => rsame_below va1 vb1 _ _ W' (r1.kept hb) (s1.kept hb) f1.1 f2.1)
        have K2 := Lib.hid (fun W' (hb : Below w.heap.size w W') => rsame_below va2 vb2 _ _ W' (r2.kept hb) (s2.kept hb) f1.2 f2.2)
        have HNE := Lib.hid (fun h => lines_ne (l := ls) (l' := ls') hlt hltc h)
        have HLT := Lib.hid (And.intro hlt hltc)
        have HEQ : Hid (ls[k] = ls'[k] → ∀ j (h1 : j < ls.length) (h2 : j < ls'.length), j < k + 1 → ls[j] = ls'[j]) := Lib.hid fun hh j h1 h2 hj => by
          by_cases e : j = k
          · subst e; exact hh
          · exact HJ.out j h1 h2 (by omega)
        clear c0 c1 c2 d0 d1 d2 r1 r2 s1 s2 f1 f2 HJ
        generalize hX : ls[k] = X at *
        generalize hY : ls'[k] = Y at *
        clear hX hY
        obtain ⟨xl, xw, xa⟩ := X
        obtain ⟨yl, yw, ya⟩ := Y
        dsimp only at HCC K1 K2
        by_cases h1 : xw = yw
        · subst h1
          by_cases h2 : xl = yl
          · subst h2
            have e2 : decide (xl = xl) = true := by simp
            by_cases h3 : xa = ya
            · subst h3
              have e3 : decide (xa = xa) = true := by simp
              have HE := Lib.hid (HEQ.out rfl)
              rw [e2] at K1
              rw [e3] at K2
              clear e2 e3 HNE HEQ
              go_wp2_with fail
              refine Kit.wp_region_class (fun W' => Below w.heap.size w W') (by kernel_rfl) (by kernel_rfl) (HBR.out.drew) ?_
              repeat (first | go_big_quiet_skip | (refine BigFrame.wpQuiet_want (by rfl) (fun K hK => ?_); first | ((fail_if_success (fail_if_success (first | (refine BigFrame.quiet_move _ rfl ?_) | (refine BigFrame.quiet_assign _ rfl ?_)))); go_big_quiet_op; refine hK _ ?_; clear hK K) | (apply Exists.intro; refine ⟨fun W' hW' => ?_, hK _ ?_⟩; (obtain ⟨⟨q0, q1, q2⟩, q3, q4, q5⟩ := HCC.out W' hW'; unfold Oper.quietAt; go_simp; (first | done | (with_reducible rfl) | (exact ⟨rfl, rfl⟩) | (first | (go_at_call 39; with_reducible exact Kit.callB (K1.out _ hW') hW' (Nat.le_refl _)) | (go_at_call 39; with_reducible exact Kit.callB (K2.out _ hW') hW' (Nat.le_refl _)) | (refine ⟨rfl, ?_⟩; (first | (go_at_call 39; with_reducible exact Kit.callB (K1.out _ hW') hW' (Nat.le_refl _)) | (go_at_call 39; with_reducible exact Kit.callB (K2.out _ hW') hW' (Nat.le_refl _))))))); clear hK K; (try simp only [Act.put, List.getElem_toArray, List.getElem_cons_zero, List.getElem_cons_succ, List.setIfInBounds_toArray, List.set_cons_zero, List.set_cons_succ]))))
              refine wpQuiet_nil ?_
              intro W9 hW9
              go_wp2_with fail
              exact ⟨⟨k + 1, by simp, hW9, HLT.out.1, HE.out⟩, by have := HLT.out.1; simp; omega⟩
            · have e3 : decide (xa = ya) = false := by simpa using h3
              have HR := Lib.hid (HNE.out (L6.line_ne_args h3))
              rw [e2] at K1
              rw [e3] at K2
              clear e2 e3 HNE HEQ h3
              go_wp2_with fail
              refine Kit.wp_region_class (fun W' => Below w.heap.size w W') (by kernel_rfl) (by kernel_rfl) (HBR.out.drew) ?_
              repeat (first | go_big_quiet_skip | (refine BigFrame.wpQuiet_want (by rfl) (fun K hK => ?_); first | ((fail_if_success (fail_if_success (first | (refine BigFrame.quiet_move _ rfl ?_) | (refine BigFrame.quiet_assign _ rfl ?_)))); go_big_quiet_op; refine hK _ ?_; clear hK K) | (apply Exists.intro; refine ⟨fun W' hW' => ?_, hK _ ?_⟩; (obtain ⟨⟨q0, q1, q2⟩, q3, q4, q5⟩ := HCC.out W' hW'; unfold Oper.quietAt; go_simp; (first | done | (with_reducible rfl) | (exact ⟨rfl, rfl⟩) | (first | (go_at_call 39; with_reducible exact Kit.callB (K1.out _ hW') hW' (Nat.le_refl _)) | (go_at_call 39; with_reducible exact Kit.callB (K2.out _ hW') hW' (Nat.le_refl _)) | (refine ⟨rfl, ?_⟩; (first | (go_at_call 39; with_reducible exact Kit.callB (K1.out _ hW') hW' (Nat.le_refl _)) | (go_at_call 39; with_reducible exact Kit.callB (K2.out _ hW') hW' (Nat.le_refl _))))))); clear hK K; (try simp only [Act.put, List.getElem_toArray, List.getElem_cons_zero, List.getElem_cons_succ, List.setIfInBounds_toArray, List.set_cons_zero, List.set_cons_succ]))))
              refine wpQuiet_nil ?_
              intro W9 hW9
              go_wp2_with fail
              go_ret
              exact ⟨lret_bool HR.out.symm, hW9⟩
          · have e2 : decide (xl = yl) = false := by simpa using h2
            have HR := Lib.hid (HNE.out (L6.line_ne_labels h2))
            rw [e2] at K1
            clear e2 HNE HEQ h2
            go_wp2_with fail
            refine Kit.wp_region_class (fun W' => Below w.heap.size w W') (by kernel_rfl) (by kernel_rfl) (HBR.out.drew) ?_
            repeat (first | go_big_quiet_skip | (refine BigFrame.wpQuiet_want (by rfl) (fun K hK => ?_); first | ((fail_if_success (fail_if_success (first | (refine BigFrame.quiet_move _ rfl ?_) | (refine BigFrame.quiet_assign _ rfl ?_)))); go_big_quiet_op; refine hK _ ?_; clear hK K) | (apply Exists.intro; refine ⟨fun W' hW' => ?_, hK _ ?_⟩; (obtain ⟨⟨q0, q1, q2⟩, q3, q4, q5⟩ := HCC.out W' hW'; unfold Oper.quietAt; go_simp; (first | done | (with_reducible rfl) | (exact ⟨rfl, rfl⟩) | (first | (go_at_call 39; with_reducible exact Kit.callB (K1.out _ hW') hW' (Nat.le_refl _)) | (go_at_call 39; with_reducible exact Kit.callB (K2.out _ hW') hW' (Nat.le_refl _)) | (refine ⟨rfl, ?_⟩; (first | (go_at_call 39; with_reducible exact Kit.callB (K1.out _ hW') hW' (Nat.le_refl _)) | (go_at_call 39; with_reducible exact Kit.callB (K2.out _ hW') hW' (Nat.le_refl _))))))); clear hK K; (try simp only [Act.put, List.getElem_toArray, List.getElem_cons_zero, List.getElem_cons_succ, List.setIfInBounds_toArray, List.set_cons_zero, List.set_cons_succ]))))
            refine wpQuiet_nil ?_
            intro W9 hW9
            go_wp2_with fail
            go_ret
            exact ⟨lret_bool HR.out.symm, hW9⟩
        · have hxx : (xw == yw) = false := by rw [beq_eq_false_iff_ne]; exact h1
          have HR := Lib.hid (HNE.out (L6.line_ne_word h1))
          clear HNE HEQ h1
          go_wp2_with fail
          refine Kit.wp_region_class (fun W' => Below w.heap.size w W') (by kernel_rfl) (by kernel_rfl) (HBR.out.drew) ?_
          repeat (first | go_big_quiet_skip | (refine BigFrame.wpQuiet_want (by rfl) (fun K hK => ?_); first | ((fail_if_success (fail_if_success (first | (refine BigFrame.quiet_move _ rfl ?_) | (refine BigFrame.quiet_assign _ rfl ?_)))); go_big_quiet_op; refine hK _ ?_; clear hK K) | (apply Exists.intro; refine ⟨fun W' hW' => ?_, hK _ ?_⟩; (obtain ⟨⟨q0, q1, q2⟩, q3, q4, q5⟩ := HCC.out W' hW'; unfold Oper.quietAt; go_simp; (first | done | (with_reducible rfl) | (exact ⟨rfl, rfl⟩) | (first | (go_at_call 39; with_reducible exact Kit.callB (K1.out _ hW') hW' (Nat.le_refl _)) | (go_at_call 39; with_reducible exact Kit.callB (K2.out _ hW') hW' (Nat.le_refl _)) | (refine ⟨rfl, ?_⟩; (first | (go_at_call 39; with_reducible exact Kit.callB (K1.out _ hW') hW' (Nat.le_refl _)) | (go_at_call 39; with_reducible exact Kit.callB (K2.out _ hW') hW' (Nat.le_refl _))))))); clear hK K; (try simp only [Act.put, List.getElem_toArray, List.getElem_cons_zero, List.getElem_cons_succ, List.setIfInBounds_toArray, List.set_cons_zero, List.set_cons_succ]))))
          refine wpQuiet_nil ?_
          intro W9 hW9
          go_wp2_with fail
          go_ret
          exact ⟨lret_bool HR.out.symm, hW9⟩
      · have hge : (ls.length : Int) ≤ (k : Int) := by omega
        have HR := Lib.hid (show decide (ls = ls') = true from by rw [decide_eq_true_iff]; exact lines_step HLEN.out HJ.out (by omega))
        go_wp2_with fail
        go_ret
        exact ⟨lret_bool HR.out.symm, HBR.out⟩
  · have hlen' : ((ls.length : Int) != (ls'.length : Int)) = true := by rw [bne_iff_ne]; omega
    have HR := Lib.hid (show decide (ls = ls') = false from by rw [decide_eq_false_iff_not]; intro e; exact hlen (by rw [e]))
    go_wp2_with fail
    go_ret
    exact ⟨lret_bool HR.out.symm, Below.refl _ _⟩
end Go.Proofs.YtfafdkbnmfpbmaaDoor
