/- Flow, the program's side: Plain. -/
import Derived.Test.YtfafdkbnmfpbmaaDoorF8Line
import Derived.Test.YtfafdkbnmfpbmaaDoorF8Pl
namespace Go.Proofs.YtfafdkbnmfpbmaaDoor
open Go.RowKit Kit
set_option linter.unusedVariables false
set_option linter.unusedSimpArgs false

theorem fline_any {B gm H : Nat} {S : F8.St} (w : World) (vl va : Value) (x : L6.Line) (h : F8.LineIn B gm H S w vl va x) {k : F8.K} (hk : F8.kind x.word = some k) (hf : F8.fine k x = true) :
    Calls Tryd.prog 36 #[.pointer (some ⟨gm, 0, none⟩), .agg #[vl, .string ⟨x.word.toArray⟩, va]] w (F8.LinePost B gm w (F8.own k S x)) := by
  have hx := F8.word_kind hk
  have h3 : F8.cond k = true → x.args.length = 3 := fun hc => by
    unfold F8.fine at hf
    rw [if_pos hc] at hf
    simp at hf
    exact hf.1
  cases k
  · exact fline_if w vl va x h hx (h3 rfl)
  · exact fline_else w vl va x h hx
  · exact fline_then w vl va x h hx
  · exact fline_begin w vl va x h hx
  · exact fline_while w vl va x h hx (h3 rfl)
  · exact fline_repeat w vl va x h hx
  · exact fline_until w vl va x h hx (h3 rfl)
  · exact fline_again w vl va x h hx
/-- A slice of lines of the call's own; no two of their slices share memory. -/
def F8.OwnD (B : Nat) (w : World) (v : Value) (ls : List L6.Line) : Prop := ∃ cs H, w.ownsRow B 42 3 v ls.length cs ∧ F8.Ls (OwnZ B w) ls cs ∧ F8.Apart H cs
theorem F8.OwnD.nil (B : Nat) (w : World) : F8.OwnD B w (.slice none 0 0) [] := ⟨[], 0, World.ownsRow_nil w B _ _, rfl, by simp [F8.blks], by simp [F8.blks]⟩
theorem F8.OwnD.rd {B : Nat} {w : World} {v : Value} {ls : List L6.Line} (h : F8.OwnD B w v ls) : RdL w v ls := by
  obtain ⟨cs, H, h1, h2, h3⟩ := h
  exact ⟨cs, Rd.of_own h1, F8.Ls.rd (fun _ _ hz => hz.rd) h2⟩
theorem F8.OwnD.kept {B : Nat} {w w' : World} {v : Value} {ls : List L6.Line} (h : F8.OwnD B w v ls) (hb : Below w.heap.size w w') : F8.OwnD B w' v ls := by
  obtain ⟨cs, H, h1, h2, h3⟩ := h
  exact ⟨cs, H, own_kept h1 hb, h2.map fun _ _ hz => hz.kept hb, h3⟩
def F8.PlainPost (w : World) (r : List L6.Line × Nat × Nat) (e : Ending) (w' : World) : Prop := ∃ v, e = .returned (.tuple #[v, .int .i64 (r.2.1 : Int), .int .i64 (r.2.2 : Int)]) ∧ F8.OwnD w.heap.size w' v r.1 ∧ Below w.heap.size w w'
theorem F8.plain_bad {ls : List L6.Line} {n e : Nat} (h : F8.run F8.own 0 F8.start ls = .inl (n, e)) : F8.plain ls = ([], n, e) := by unfold F8.plain; rw [h]; rfl
theorem F8.post_bad {w w' : World} {ls : List L6.Line} {n e : Nat} {i j : Int} (h : F8.run F8.own 0 F8.start ls = .inl (n, e)) (hi : i = n) (hj : j = e) (hb : Below w.heap.size w w') : F8.PlainPost w (F8.plain ls) (.returned (.tuple #[.slice none 0 0, .int .i64 i, .int .i64 j])) w' := by
  rw [F8.plain_bad h, hi, hj]
  exact ⟨_, rfl, F8.OwnD.nil _ _, hb⟩
/-- What a line may hold here. -/
def F8.Fit (x : L6.Line) : Prop := x.labels.length ≤ 100000 ∧ x.args.length ≤ 100000 ∧ ∀ s ∈ x.labels, s.length ≤ 1000000000
theorem F8.mk_start (w : World) : F8.MkO w.heap.size (w.alloc (.cells #[.slice none 0 0, .slice none 0 0, .int .i64 0] 62)) w.heap.size (w.alloc (.cells #[.slice none 0 0, .slice none 0 0, .int .i64 0] 62)).heap.size F8.start :=
  ⟨by simp, Nat.le_refl _, Nat.le_refl _, ⟨.slice none 0 0, .slice none 0 0, [], Bk.fresh w _ _, World.ownsRow_nil _ _ _ _, rfl, World.ownsRow_nil _ _ _ _, F8.Sep.nil _ _⟩⟩
set_option maxRecDepth 100000 in
set_option maxHeartbeats 8000000 in
theorem fplain_any (v : Value) (ls : List L6.Line) (w : World) (h : RdL w v ls) (hl : ls.length ≤ 40000) (hx : ∀ x ∈ ls, F8.Fit x) (hT : L6.Tab w) :
    Calls Tryd.prog 12 #[v] w (F8.PlainPost w (F8.plain ls)) := by
  have HH := Lib.hid h
  have HX := Lib.hid hx
  have HLL := Lib.hid hl
  have HTB := Lib.hid (show F8.TabB w.heap.size w from ⟨hT, F8.tab_lt hT⟩)
  obtain ⟨A, c, rfl⟩ := h.form
  have hm0 := F8.mk_start w
  have hb0 : Below w.heap.size w (w.alloc (.cells #[.slice none 0 0, .slice none 0 0, .int .i64 0] 62)) := (Below.refl _ _).alloc (Nat.le_refl _) _
  have HM0 := Lib.hid hm0
  have HB0 := Lib.hid hb0
  clear h hx hl hT hm0 hb0
  go_enter Tryd.func12, Tryd.ntmps12
  go_wp2_with fail
  go_loopw [14] (fun i wr => ∃ (k : Nat) (S : F8.St), i = .int .i64 (k : Int) ∧ k ≤ ls.length ∧ F8.run F8.own 0 F8.start (ls.take k) = .inr S ∧ F8.MkO w.heap.size wr w.heap.size wr.heap.size S ∧ Below w.heap.size w wr) (fun i _ => ls.length - (intOf i).toNat)
  case atStart => exact ⟨0, F8.start, rfl, Nat.zero_le _, rfl, HM0.out, HB0.out⟩
  case round =>
    obtain ⟨k, S, rfl, hk, hrun, hm, hbr⟩ := hrel
    have HRUN := Lib.hid hrun
    have HM := Lib.hid hm
    have HBR := Lib.hid hbr
    have hsz := F8.run_size _ _ _ _ hrun
    have HSZ := Lib.hid (show S.out.length ≤ 80000 ∧ S.opn.length ≤ 40000 ∧ S.made ≤ 40000 from by have := HLL.out; simp [F8.start] at hsz; omega)
    clear hrun hm hbr hsz
    by_cases hlt : k < ls.length
    · have hlt' : (k : Int) < (ls.length : Int) := by omega
      have hw1 : IntKind.i64.wrap ((k : Int) + 1) = (k : Int) + 1 := by have := HLL.out; rw [IntKind.wrap_i64]; omega
      have HTK := Lib.hid (F8.run_take F8.own ls hlt 0 F8.start S HRUN.out)
      obtain ⟨g, off, c', va1, va2, e, hg, c0, c1, c2, r1, r2⟩ := HH.out.at hlt
      injection e with e1 e2 e3
      subst e1 e3
      have HLT := Lib.hid (show k + 1 ≤ ls.length from hlt)
      have f1 := HX.out _ (List.getElem_mem hlt)
      generalize ls[k] = X at *
      obtain ⟨xl, xw, xa⟩ := X
      obtain ⟨B1, cc1, rfl⟩ := r1.form
      obtain ⟨B2, cc2, rfl⟩ := r2.form
      dsimp only at c0 c1 c2 r1 r2 f1
      have HF := Lib.hid f1
      have q0 : wr.cell? ⟨g, off + k * 3, none⟩ = some (.slice B1 xl.length cc1) := (HBR.out.cell (p := ⟨g, _, none⟩) hg).trans c0
      have q1 : wr.cell? ⟨g, off + k * 3 + 1, none⟩ = some (.string ⟨xw.toArray⟩) := (HBR.out.cell (p := ⟨g, _, none⟩) hg).trans c1
      have q2 : wr.cell? ⟨g, off + k * 3 + 2, none⟩ = some (.slice B2 xa.length cc2) := (HBR.out.cell (p := ⟨g, _, none⟩) hg).trans c2
      obtain ⟨w1, hw1e⟩ : ∃ w1, wr.alloc (.cells #[.slice B1 xl.length cc1, .string ⟨xw.toArray⟩, .slice B2 xa.length cc2] 42) = w1 := ⟨_, rfl⟩
      have hal : Below wr.heap.size wr w1 := by rw [← hw1e]; exact (Below.refl _ _).alloc (Nat.le_refl _) _
      have hsz1 : w1.heap.size = wr.heap.size + 1 := by rw [← hw1e]; simp
      have hbk1 : Bk w1 wr.heap.size 42 #[.slice B1 xl.length cc1, .string ⟨xw.toArray⟩, .slice B2 xa.length cc2] := by rw [← hw1e]; exact Bk.fresh wr _ _
      have hbe1 : Below w.heap.size w w1 := HBR.out.trans (hal.mono HBR.out.size)
      have CCL := Lib.hid (fclone_any _ _ ⟨xl, xw, xa⟩ w1 ((r1.kept HBR.out).kept hal) ((r2.kept HBR.out).kept hal) (Nat.le_trans (show xl.length ≤ 100000 from f1.1) (by decide)) (Nat.le_trans (show xa.length ≤ 100000 from f1.2.1) (by decide)))
      have b0 := hbk1.cell 0
      have b1 := hbk1.cell 1
      have b2 := hbk1.cell 2
      have HM1 := Lib.hid (HM.out.kept hal)
      have HBE1 := Lib.hid hbe1
      have HSZ1 := Lib.hid hsz1
      have HBK1 := Lib.hid hbk1
      have HFR := Lib.hid (HM.out.free hal (Nat.le_refl wr.heap.size))
      have HAL := Lib.hid hal
      clear c0 c1 c2 r1 r2 f1 hal hsz1 hbk1 hbe1
      go_wp2_with (go_at_call 31; refine CCL.out.mono ?_)
      rintro e w2 ⟨vl, va, rfl, hol, hoa, hdis, hb2⟩
      obtain ⟨A3, c3, rfl⟩ := hol.form
      obtain ⟨A4, c4, rfl⟩ := hoa.form
      dsimp only at hol hoa hdis
      have hk2 := HBK1.out.kept hb2
      have d0 := hk2.cell 0
      have d1 := hk2.cell 1
      have d2 := hk2.cell 2
      have e0 := hk2.free 0
      have e1 := hk2.free 1
      have e2 := hk2.free 2
      have hbut := ((But.setCell w2 wr.heap.size 0 (.slice A3 xl.length c3)).trans (But.setCell _ _ 1 (.string ⟨xw.toArray⟩))).trans (But.setCell _ _ 2 (.slice A4 xa.length c4))
      have hk3 := ((hk2.set 0 (.slice A3 xl.length c3)).set 1 (.string ⟨xw.toArray⟩)).set 2 (.slice A4 xa.length c4)
      simp only [List.setIfInBounds_toArray, List.set_cons_zero, List.set_cons_succ] at hk3
      obtain ⟨hm3, hbl3, hz3⟩ := (HM1.out.kept hb2).but hbut ((HM1.out.kept hb2).free (W := w2) (Below.refl _ _) (Nat.le_refl _) |> fun _ => HFR.out.same (hb2.block _ HM1.out.lt)) hk2 (by decide) HBR.out.size
      obtain ⟨w3, hw3⟩ : ∃ w3, ((w2.setCell ⟨wr.heap.size, 0, none⟩ (.slice A3 xl.length c3)).setCell ⟨wr.heap.size, 1, none⟩ (.string ⟨xw.toArray⟩)).setCell ⟨wr.heap.size, 2, none⟩ (.slice A4 xa.length c4) = w3 := ⟨_, rfl⟩
      rw [hw3] at hk3 hm3 hbl3 hz3 hbut
      have hol3 := hz3 (.inl hol)
      have hoa3 := hz3 (.inl hoa)
      have k0 := hk3.cell 0
      have k1 := hk3.cell 1
      have k2 := hk3.cell 2
      have HM3 := Lib.hid hm3
      have HK3 := Lib.hid hk3
      have HOL := Lib.hid hol3
      have HOA := Lib.hid hoa3
      have HDIS := Lib.hid hdis
      have HBE3 := Lib.hid (show Below w.heap.size w w3 from (HBE1.out.trans (hb2.mono HBE1.out.size)).trans hbl3)
      have HFR3 := Lib.hid ((HFR.out.same (hb2.block _ HM1.out.lt)).same (hbut.block (Nat.lt_of_lt_of_le HM1.out.lt hb2.size) (Ne.symm HFR.out.1)))
      have CR := Lib.hid (fright_any (.slice A3 xl.length c3) (.slice A4 xa.length c4) ⟨xl, xw, xa⟩ w3 ⟨_, _, _, rfl⟩ hoa3.rd (Nat.le_trans (show xa.length ≤ 100000 from HF.out.2.1) (by decide)))
      clear hol hoa hdis hk2 hbut hk3 hm3 hbl3 hz3 hol3 hoa3 hb2 b0 b1 b2
      go_wp2_with (go_at_call 32; refine CR.out.mono ?_)
      rintro e w4 ⟨rfl, hb4⟩
      obtain ⟨fine, is, hask⟩ : ∃ a b, F8.ask ⟨xl, xw, xa⟩ = (a, b) := ⟨_, _, rfl⟩
      have HASK := Lib.hid hask
      rw [hask]
      dsimp only
      have hk4 := HK3.out.kept hb4
      have g0 := hk4.cell 0
      have g1 := hk4.cell 1
      have g2 := hk4.cell 2
      have HK4 := Lib.hid hk4
      have HB4 := Lib.hid hb4
      have CM := Lib.hid (fcontains_made (.slice A3 xl.length c3) xl w4 (HOL.out.rd.kept hb4) (Nat.le_trans (show xl.length ≤ 100000 from HF.out.1) (by decide)) (fun x hx => HF.out.2.2 x hx))
      clear hb4 hk4 hask
      go_wp2_with (go_at_call 33; refine CM.out.mono ?_)
      rintro e w5 ⟨rfl, hb5⟩
      have hb35 := HB4.out.trans (hb5.mono HB4.out.size)
      have hk5 := HK3.out.kept hb35
      have i0 := hk5.cell 0
      have i1 := hk5.cell 1
      have i2 := hk5.cell 2
      have HM5 := Lib.hid (HM3.out.kept hb35)
      have HOL5 := Lib.hid (HOL.out.kept hb35)
      have HOA5 := Lib.hid (HOA.out.kept hb35)
      have HBE5 := Lib.hid (show Below w.heap.size w w5 from HBE3.out.trans (hb35.mono HBE3.out.size))
      clear hb5 hb35 hk5
      cases hmd : xl.any F8.made
      · have HLS := Lib.hid (show F8.step F8.own S ⟨xl, xw, xa⟩ = (match F8.kind xw with | none => .ok ⟨S.out ++ [⟨xl, xw, xa⟩], S.opn, S.made⟩ | some k => if F8.fine k ⟨xl, xw, xa⟩ then (match F8.own k S ⟨xl, xw, xa⟩ with | some S' => .ok S' | none => .bad 44) else .bad 40) from by unfold F8.step; rw [if_neg (by rw [hmd]; decide)]; rfl)
        clear hmd
        have HZ1 := Lib.hid (show wr.heap.size ≤ w1.heap.size from by rw [HSZ1.out]; exact Nat.le_succ _)
        cases hkd : F8.kind xw with
        | none =>
          have ha := HASK.out
          rw [F8.ask_none hkd] at ha
          injection ha with ha1 ha2
          subst ha1 ha2
          have hst : F8.step F8.own S ⟨xl, xw, xa⟩ = .ok ⟨S.out ++ [⟨xl, xw, xa⟩], S.opn, S.made⟩ := by rw [HLS.out, hkd]
          have hnx := HTK.out.1
          rw [hst] at hnx
          have HNX := Lib.hid hnx
          have hnew : F8.New wr.heap.size w5.heap.size (.slice A3 xl.length c3) (.slice A4 xa.length c4) :=
            ⟨fun j hj => ⟨Nat.le_trans HZ1.out (HOL5.out.blk_lt hj).1, (HOL5.out.blk_lt hj).2⟩, fun j hj => ⟨Nat.le_trans HZ1.out (HOA5.out.blk_lt hj).1, (HOA5.out.blk_lt hj).2⟩, HDIS.out⟩
          obtain ⟨A, cA, cs, k0', f0, hkk, hoo1, hs1, hz1, hput⟩ := F8.Mk.room F8.uo llrt HM5.out ⟨xl, xw, xa⟩ (.inl (HOL5.out.rebase (Nat.le_trans HBR.out.size HZ1.out))) (.inl (HOA5.out.rebase (Nat.le_trans HBR.out.size HZ1.out))) (fun _ => hnew)
          have ka : (w5.alloc (.cells #[.slice A3 xl.length c3, .string ⟨xw.toArray⟩, .slice A4 xa.length c4] 42)).cell? ⟨w.heap.size, 0, none⟩ = some (.slice A S.out.length cA) := hkk _ ((Below.refl _ _).alloc (Nat.le_refl _) _)
          clear hkk
          have HO1 := Lib.hid hoo1
          have HS1 := Lib.hid hs1
          have HZZ1 := Lib.hid hz1
          have HPUT := Lib.hid hput
          have HL1 := Lib.hid (show (S.out.length + 1) * 64 ≤ 140737488355328 by have := HSZ.out.1; omega)
          have HL2 := Lib.hid (show S.out.length + 1 ≤ maxLen by have := HSZ.out.1; unfold maxLen; omega)
          clear hoo1 hs1 hz1 hput hnew hnx hst hkd k0 k1 k2 g0 g1 g2
          go_wp2_with fail
          go_region_law (refine step_appendRB (by rfl) _ _ _ _ (by rfl) llrt (by decide) w.heap.size (.slice A S.out.length cA) (by rfl) S.out.length cs HO1.out _ (by rfl) 1 [.slice A3 xl.length c3, .string ⟨xw.toArray⟩, .slice A4 xa.length c4] HS1.out HL1.out HL2.out HZZ1.out ?_; intro v6 w6 ho6 hb6 hg6 hv6; obtain ⟨⟨A6, c6, rfl⟩, k6, f6, HM6⟩ := HPUT.out v6 w6 ho6 hb6 hg6 hv6)
          all_goals go_wp2_with fail
          all_goals go_roundw
          all_goals first
            | (case rel => exact ⟨k + 1, _, by simp, HLT.out, HNX.out, HM6.out.1.later HM6.out.1.le (Nat.le_refl _), HBE5.out.trans HM6.out.2.below⟩)
            | (case measure => have := HLT.out; simp [intOf]; omega)
        | some kd =>
          have ha := HASK.out
          rw [F8.ask_kind (F8.word_kind hkd)] at ha
          injection ha with ha1 ha2
          subst ha2
          cases hf : F8.fine kd ⟨xl, xw, xa⟩
          · rw [hf] at ha1
            subst ha1
            have hst : F8.step F8.own S ⟨xl, xw, xa⟩ = .bad 40 := by rw [HLS.out, hkd]; dsimp only; rw [if_neg (by rw [hf]; decide)]
            have HBAD := Lib.hid (HTK.out.2 40 hst)
            clear hst hf hkd
            go_wp2_with fail
            go_ret3
            exact F8.post_bad HBAD.out (by simp) rfl HBE5.out
          · rw [hf] at ha1
            subst ha1
            have hst : F8.step F8.own S ⟨xl, xw, xa⟩ = (match F8.own kd S ⟨xl, xw, xa⟩ with | some S' => .ok S' | none => .bad 44) := by rw [HLS.out, hkd]; dsimp only; rw [if_pos hf]
            have hin : F8.LineIn w.heap.size w.heap.size wr.heap.size S w5 (.slice A3 xl.length c3) (.slice A4 xa.length c4) ⟨xl, xw, xa⟩ :=
              ⟨HM5.out, HTB.out.below HBE5.out, HOL5.out.rebase (Nat.le_trans HBR.out.size HZ1.out), HOA5.out.rebase (Nat.le_trans HBR.out.size HZ1.out), fun j hj => Nat.le_trans HZ1.out (HOL5.out.blk_lt hj).1, HF.out.1, Nat.le_trans HSZ.out.1 (by decide), Nat.le_trans HSZ.out.2.1 (by decide), Nat.le_trans HSZ.out.2.2 (by decide)⟩
            have hcl := fline_any w5 _ _ ⟨xl, xw, xa⟩ hin hkd hf
            cases ho : F8.own kd S ⟨xl, xw, xa⟩ with
            | none =>
              rw [ho] at hst hcl
              have CLN := Lib.hid hcl
              have HBAD := Lib.hid (HTK.out.2 44 hst)
              clear hst hf hkd hin hcl ho
              go_wp2_with (go_at_call 36; refine CLN.out.mono ?_; rintro e w6 ⟨rfl, hb6⟩)
              go_ret3
              exact F8.post_bad HBAD.out (by simp) rfl (HBE5.out.trans hb6)
            | some S' =>
              rw [ho] at hst hcl
              have CLN := Lib.hid hcl
              have hnx := HTK.out.1
              rw [hst] at hnx
              have HNX := Lib.hid hnx
              clear hst hf hkd hin hcl ho hnx
              go_wp2_with (go_at_call 36; refine CLN.out.mono ?_; rintro e w6 ⟨rfl, hm6, hs6⟩; have HM6 := Lib.hid hm6; have HS6 := Lib.hid hs6; clear hm6 hs6)
              go_roundw
              case rel => exact ⟨k + 1, _, by simp, HLT.out, HNX.out, HM6.out, HBE5.out.trans HS6.out.below⟩
              case measure => have := HLT.out; simp [intOf]; omega
      · have HST := Lib.hid (show F8.step F8.own S ⟨xl, xw, xa⟩ = .bad 41 from by unfold F8.step; rw [if_pos hmd])
        have HBAD := Lib.hid (HTK.out.2 41 HST.out)
        clear hmd
        go_wp2_with fail
        go_ret3
        exact F8.post_bad HBAD.out (by simp) rfl HBE5.out
    · obtain rfl : k = ls.length := by omega
      have hrun := HRUN.out
      rw [List.take_length] at hrun
      obtain ⟨so, sp, sm⟩ := S
      obtain ⟨vo, vp, cs, h1, h2, h3, h4, h5⟩ := HM.out.obj
      dsimp only at h1 h2 h3 h4
      have c0 := h1.cell 0
      have c1 := h1.cell 1
      obtain ⟨A1, cc1, rfl⟩ := (Rd.of_own h2).form
      obtain ⟨A2, cc2, rfl⟩ := (Rd.of_own h4).form
      have HOUT := Lib.hid (show F8.OwnD w.heap.size wr (.slice A1 so.length cc1) so from ⟨cs, wr.heap.size, h2, h3.map (fun _ _ hz => hz.own), h5.apart⟩)
      have hw1 : IntKind.i64.wrap ((ls.length : Int) + 1) = (ls.length : Int) + 1 := by have := HLL.out; rw [IntKind.wrap_i64]; omega
      cases sp with
      | nil =>
        have HP := Lib.hid (show F8.plain ls = (so, 0, 0) from by unfold F8.plain; rw [hrun]; rfl)
        clear h1 h2 h3 h4 h5 hrun
        go_wp2_with fail
        go_ret3
        rw [HP.out]
        exact ⟨_, rfl, HOUT.out, HBR.out⟩
      | cons q r =>
        have HP := Lib.hid (show F8.plain ls = ([], ls.length + 1, 44) from by unfold F8.plain; rw [hrun]; rfl)
        have hpos : (0 : Int) < ((q :: r).length : Int) := by rw [List.length_cons]; omega
        generalize (q :: r).length = np at *
        clear h1 h2 h3 h4 h5 hrun
        go_wp2_with fail
        go_ret3
        rw [HP.out]
        exact ⟨_, by simp, F8.OwnD.nil _ _, HBR.out⟩
end Go.Proofs.YtfafdkbnmfpbmaaDoor
