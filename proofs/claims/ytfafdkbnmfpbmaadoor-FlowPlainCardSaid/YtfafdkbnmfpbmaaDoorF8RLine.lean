/- Flow, the document's side: line. -/
import Derived.Test.YtfafdkbnmfpbmaaDoorF8RefB
namespace Go.Proofs.YtfafdkbnmfpbmaaDoor
open Go.RowKit Kit
set_option linter.unusedVariables false
set_option linter.unusedSimpArgs false

/-- What line leaves. -/
def F8.RLinePost (B gm : Nat) (w : World) (r : Option F8.St) (e : Ending) (w' : World) : Prop :=
  match r with
  | none => e = .returned (.int .i64 44) ∧ Below B w w'
  | some S' => e = .returned (.int .i64 0) ∧ F8.MkR B w' gm w'.heap.size S' ∧ F8.Stay gm B w w'
/-- What line is asked with. -/
structure F8.RLineIn (B gm H : Nat) (S : F8.St) (w : World) (vl va : Value) (x : L6.Line) : Prop where
  maker : F8.MkR B w gm H S
  l : F8.Z false B w vl x.labels
  a : F8.Z false B w va x.args
  ll : x.labels.length ≤ 100000
  out : S.out.length ≤ 90000
  opn : S.opn.length ≤ 90000
  made : S.made ≤ 90000
theorem F8.RLineIn.boxed {B gm H : Nat} {S : F8.St} {w w1 : World} {vl va : Value} {x : L6.Line} {s : ByteArray} (h : F8.RLineIn B gm H S w vl va x) (h1 : w.alloc (.cells #[vl, .string s, va] 41) = w1) :
    F8.MkR B w1 gm H S ∧ F8.Stay gm B w w1 ∧ Below w.heap.size w w1 ∧ (∀ W, F8.Stay gm B w1 W → (W.cell? ⟨w.heap.size, 0, none⟩ = some vl ∧ W.cell? ⟨w.heap.size, 1, none⟩ = some (.string s) ∧ W.cell? ⟨w.heap.size, 2, none⟩ = some va) ∧ F8.Z false B W vl x.labels ∧ F8.Z false B W va x.args) := by
  have hal : Below w.heap.size w w1 := by rw [← h1]; exact (Below.refl _ _).alloc (Nat.le_refl _) _
  have hbk : Bk w1 w.heap.size 41 #[vl, .string s, va] := by rw [← h1]; exact Bk.fresh w _ _
  have hst : F8.Stay gm B w w1 := F8.Stay.of hal h.maker.size h.maker.lt
  have hf := h.maker.free hal (Nat.le_refl w.heap.size)
  refine ⟨h.maker.kept hal, hst, hal, fun W hs => ?_⟩
  have hk := (hs.bk hbk hf).1
  exact ⟨⟨hk.cell 0, hk.cell 1, hk.cell 2⟩, (h.l.stay hst).stay hs, (h.a.stay hst).stay hs⟩
theorem OwnS.stay {gm base B : Nat} {w w' : World} {v : Value} {l : List (List UInt8)} (h : OwnS base w v l) (hs : F8.Stay gm B w w') : OwnS base w' v l := by
  obtain ⟨h1, h2⟩ := h
  refine ⟨h1, ?_⟩
  rcases h2 with h2 | ⟨g, cap, cur, rfl, hb', hh, rest⟩
  · exact .inl h2
  · exact .inr ⟨g, cap, cur, rfl, hb', (hs.text g cur hh).trans hh, rest⟩
theorem own_ge {w : World} {base : Nat} {e : TypeId} {size : Nat} {v : Value} {n : Nat} {xs : List Value} (h : w.ownsRow base e size v n xs) : ∀ k, v.ownBlock = some k → base ≤ k := by
  intro k hk
  obtain ⟨_, h2⟩ := h
  rcases h2 with ⟨rfl, _⟩ | ⟨g, cap, cur, rfl, hb', hh, rest⟩
  · cases hk
  · simp [Value.ownBlock] at hk
    omega
/-- A row grows that was not there. -/
theorem F8.Stay.grownNew {gm B : Nat} {w1 wj w5 : World} {v : Value} (h : F8.Stay gm B w1 wj) (hg : wj.grownBy w5 v.ownBlock) (hge : ∀ k, v.ownBlock = some k → w1.heap.size ≤ k) (hb : Below B wj w5) (hgm : gm < w1.heap.size) : F8.Stay gm B w1 w5 := by
  have hs : ∀ g, g < w1.heap.size → w5.heap[g]? = wj.heap[g]? := fun g hl => hg.block g (Nat.lt_of_lt_of_le hl h.below.size) (fun e => by have := hge g e.symm; omega)
  refine ⟨h.below.trans hb, fun g cs hk => (hs g hk.lt).trans (h.text g cs hk), fun g hl hf => ?_⟩
  obtain ⟨e1, f1⟩ := h.keep g hl hf
  exact ⟨(hs g hl).trans e1, f1.same (hs gm hgm)⟩
/-- Words that were just written out. -/
theorem F8.words_newR {B gm H : Nat} {S : F8.St} {w : World} (h : F8.MkR B w gm H S) (k : List UInt8) {w' : World} (hw : w.alloc (.cells #[.string ⟨k.toArray⟩] 9) = w') :
    F8.MkR B w' gm H S ∧ F8.Stay gm B w w' ∧ OwnS w.heap.size w' (.slice (some ⟨w.heap.size, 0, none⟩) 1 1) [k] ∧ Src Tryd.prog 1 39 (.slice (some ⟨w.heap.size, 0, none⟩) 1 1) 1 [.string ⟨k.toArray⟩] w' := by
  have hal : Below w.heap.size w w' := by rw [← hw]; exact (Below.refl w.heap.size w).alloc (Nat.le_refl _) (.cells #[.string ⟨k.toArray⟩] 9)
  refine ⟨h.kept hal, F8.Stay.of hal h.size h.lt, ?_, ?_⟩
  · rw [← hw]; exact F8.own_of_bk' (l := [k]) (Bk.fresh w _ _) (Nat.le_refl _) (by unfold maxLen; simp)
  · rw [← hw]; exact src_one w k
theorem F8.Z.of_own {own : Bool} {B : Nat} {w : World} {v : Value} {l : List (List UInt8)} (h : OwnS B w v l) : F8.Z own B w v l := .inl (.inl h)
theorem rputw_any {B gm H : Nat} {S : F8.St} (w : World) (h : F8.MkR B w gm H S) (vl va : Value) (lb : List (List UInt8)) (wd : List UInt8) (ar : List (List UInt8)) (hl : F8.Z false B w vl lb) (ha : F8.Z false B w va ar) (ho : S.out.length ≤ 100000) :
    Calls Tryd.prog 75 #[.pointer (some ⟨gm, 0, none⟩), vl, .string ⟨wd.toArray⟩, va] w fun e w' => e = .returned (.tuple #[]) ∧ F8.MkR B w' gm w'.heap.size ⟨S.out ++ [⟨lb, wd, ar⟩], S.opn, S.made⟩ ∧ F8.Stay gm B w w' :=
  rput_any w h vl va ⟨lb, wd, ar⟩ hl ha ho
theorem F8.word_ne {a b : List UInt8} (h : a ≠ b) : (a == b) = false := by simpa using h
set_option maxRecDepth 100000 in
set_option maxHeartbeats 4000000 in
theorem rline_if {B gm H : Nat} {S : F8.St} (w : World) (vl va : Value) (x : L6.Line) (h : F8.RLineIn B gm H S w vl va x) (hx : x.word = [105, 102]) (h3 : x.args.length = 3) :
    Calls Tryd.prog 38 #[.pointer (some ⟨gm, 0, none⟩), .agg #[vl, .string ⟨x.word.toArray⟩, va]] w (F8.RLinePost B gm w (F8.doc .ifK S x)) := by
  obtain ⟨so, sp, sm⟩ := S
  obtain ⟨xl, xw, xa⟩ := x
  dsimp only at hx
  subst hx
  obtain ⟨A1, c1, rfl⟩ := h.l.form
  obtain ⟨A2, c2, rfl⟩ := h.a.form
  obtain ⟨w1, hw1⟩ : ∃ w1, w.alloc (.cells #[.slice A1 xl.length c1, .string ⟨#[105, 102]⟩, .slice A2 xa.length c2] 41) = w1 := ⟨_, rfl⟩
  obtain ⟨hm1, hs1, hal, hbx⟩ := h.boxed hw1
  have HST := Lib.hid hs1
  have HBX := Lib.hid hbx
  obtain ⟨⟨q0, q1, q2⟩, hzl, hza⟩ := hbx w1 (F8.Stay.refl gm B w1)
  have HNO := Lib.hid (show so.length ≤ 90000 from h.out)
  have HNP := Lib.hid (show sp.length ≤ 90000 from h.opn)
  have HNM := Lib.hid (show sm ≤ 90000 from h.made)
  have HH1 := Lib.hid (show H ≤ w1.heap.size from hm1.le)
  have HB1 := Lib.hid (show B ≤ w1.heap.size from hm1.size)
  have HGM := Lib.hid hm1.lt
  have HLL := Lib.hid (show xl.length ≤ 100000 from h.ll)
  have CF := Lib.hid (rfunc1_any (.slice A1 xl.length c1) xl w1 hzl.rd (Nat.le_trans HLL.out (by decide)))
  have HM1 := Lib.hid hm1
  have H3 := Lib.hid (show xa.length = 3 from h3)
  clear h hm1 hs1 hal hbx hzl hza h3
  go_enter Tryd.func38, Tryd.ntmps38
  go_wp2_with (go_at_call 70; refine CF.out.mono ?_)
  rintro e w2 ⟨vat, rfl, hat, hb2⟩
  obtain ⟨AT, cT, rfl⟩ := hat.form
  have HM2 := Lib.hid (HM1.out.kept hb2)
  have HS2 := Lib.hid (F8.Stay.of (gm := gm) hb2 HB1.out HGM.out)
  have HT2 := Lib.hid (F8.Stay.refl gm B w2)
  have HAT := Lib.hid (fun W (hs : F8.Stay gm B w2 W) => OwnS.stay hat hs)
  obtain ⟨⟨q20, q21, q22⟩, _⟩ := HBX.out _ HS2.out
  clear hat hb2 q0 q1 q2
  have BDP := Lib.hid (show ((sp).length + 1) * 32 ≤ 140737488355328 ∧ (sp).length + 1 ≤ maxLen from by have := HNP.out; unfold maxLen; (try simp only [List.length_cons]); omega)
  go_wp2_with (first
    | (go_at_call 71; with_reducible refine (rlabel8_any _ HM2.out (by have := HNO.out; have := HNP.out; have := HNM.out; (try simp only [List.length_append, List.length_cons, List.length_nil]); omega)).mono ?_; rintro e w3 ⟨rfl, hm3, hs3⟩; have HM3 := Lib.hid hm3; have HS3 := Lib.hid (HS2.out.trans hs3); have HT3 := Lib.hid (HT2.out.trans hs3); clear hm3 hs3; obtain ⟨⟨q30, q31, q32⟩, _⟩ := HBX.out _ HS3.out)
    | (go_at_call 72; with_reducible refine (rbranch_any _ HM3.out _ _ _ ⟨xl, [], xa⟩ (F8.lab sm) (HBX.out _ HS3.out).2.1 (HBX.out _ HS3.out).2.2 H3.out (by have := HNO.out; have := HNP.out; have := HNM.out; (try simp only [List.length_append, List.length_cons, List.length_nil]); omega)).mono ?_; rintro e w4 ⟨rfl, hm4, hs4⟩; have HM4 := Lib.hid hm4; have HS4 := Lib.hid (HS3.out.trans hs4); have HT4 := Lib.hid (HT3.out.trans hs4); clear hm4 hs4; obtain ⟨⟨q40, q41, q42⟩, _⟩ := HBX.out _ HS4.out; obtain ⟨AP, cP, p1, hpo, hps, hpz, hpp⟩ := F8.Mk.pushAt F8.ur frort HM4.out [105, 102] (F8.lab sm); have HPO := Lib.hid hpo; have HPS := Lib.hid hps; have HPZ := Lib.hid hpz; have HPP := Lib.hid hpp; clear hpo hps hpz hpp)
    | (at_builtin; refine wpList_appendRB rfl _ _ _ _ rfl frort (by decide) B _ rfl (sp).length (F8.opc (sp)) HPO.out _ rfl 1 [.string ⟨[105, 102].toArray⟩, .string ⟨(F8.lab sm).toArray⟩] HPS.out BDP.out.1 BDP.out.2 HPZ.out ?_; intro vP wP ho hb hg hv; obtain ⟨⟨AQ, cQ, rfl⟩, p2, p3, HMP⟩ := HPP.out _ _ ho hb hg hv; clear ho hb hg hv))
  go_ret
  exact ⟨rfl, HMP.out.1.later HMP.out.1.le (Nat.le_refl _), HST.out.trans (HS4.out.trans HMP.out.2)⟩
set_option maxRecDepth 100000 in
set_option maxHeartbeats 4000000 in
theorem rline_begin {B gm H : Nat} {S : F8.St} (w : World) (vl va : Value) (x : L6.Line) (h : F8.RLineIn B gm H S w vl va x) (hx : x.word = [98, 101, 103, 105, 110]) :
    Calls Tryd.prog 38 #[.pointer (some ⟨gm, 0, none⟩), .agg #[vl, .string ⟨x.word.toArray⟩, va]] w (F8.RLinePost B gm w (F8.doc .beginK S x)) := by
  obtain ⟨so, sp, sm⟩ := S
  obtain ⟨xl, xw, xa⟩ := x
  dsimp only at hx
  subst hx
  obtain ⟨A1, c1, rfl⟩ := h.l.form
  obtain ⟨A2, c2, rfl⟩ := h.a.form
  obtain ⟨w1, hw1⟩ : ∃ w1, w.alloc (.cells #[.slice A1 xl.length c1, .string ⟨#[98, 101, 103, 105, 110]⟩, .slice A2 xa.length c2] 41) = w1 := ⟨_, rfl⟩
  obtain ⟨hm1, hs1, hal, hbx⟩ := h.boxed hw1
  have HST := Lib.hid hs1
  have HBX := Lib.hid hbx
  obtain ⟨⟨q0, q1, q2⟩, hzl, hza⟩ := hbx w1 (F8.Stay.refl gm B w1)
  have HNO := Lib.hid (show so.length ≤ 90000 from h.out)
  have HNP := Lib.hid (show sp.length ≤ 90000 from h.opn)
  have HNM := Lib.hid (show sm ≤ 90000 from h.made)
  have HH1 := Lib.hid (show H ≤ w1.heap.size from hm1.le)
  have HB1 := Lib.hid (show B ≤ w1.heap.size from hm1.size)
  have HGM := Lib.hid hm1.lt
  have HLL := Lib.hid (show xl.length ≤ 100000 from h.ll)
  have CF := Lib.hid (rfunc1_any (.slice A1 xl.length c1) xl w1 hzl.rd (Nat.le_trans HLL.out (by decide)))
  have HM1 := Lib.hid hm1
  clear h hm1 hs1 hal hbx hzl hza
  go_enter Tryd.func38, Tryd.ntmps38
  go_wp2_with (go_at_call 70; refine CF.out.mono ?_)
  rintro e w2 ⟨vat, rfl, hat, hb2⟩
  obtain ⟨AT, cT, rfl⟩ := hat.form
  have HM2 := Lib.hid (HM1.out.kept hb2)
  have HS2 := Lib.hid (F8.Stay.of (gm := gm) hb2 HB1.out HGM.out)
  have HT2 := Lib.hid (F8.Stay.refl gm B w2)
  have HAT := Lib.hid (fun W (hs : F8.Stay gm B w2 W) => OwnS.stay hat hs)
  obtain ⟨⟨q20, q21, q22⟩, _⟩ := HBX.out _ HS2.out
  clear hat hb2 q0 q1 q2
  have BDP := Lib.hid (show ((sp).length + 1) * 32 ≤ 140737488355328 ∧ (sp).length + 1 ≤ maxLen from by have := HNP.out; unfold maxLen; (try simp only [List.length_cons]); omega)
  have BDA := Lib.hid (show (xl.length + 1) * 16 ≤ 140737488355328 ∧ xl.length + 1 ≤ maxLen from by have := HLL.out; unfold maxLen; omega)
  go_wp2_with (first
    | (go_at_call 71; with_reducible refine (rlabel8_any _ HM2.out (by have := HNO.out; have := HNP.out; have := HNM.out; (try simp only [List.length_append, List.length_cons, List.length_nil]); omega)).mono ?_; rintro e w3 ⟨rfl, hm3, hs3⟩; have HM3 := Lib.hid hm3; have HS3 := Lib.hid (HS2.out.trans hs3); have HT3 := Lib.hid (HT2.out.trans hs3); clear hm3 hs3; obtain ⟨⟨q30, q31, q32⟩, _⟩ := HBX.out _ HS3.out; obtain ⟨w4, hw4⟩ : ∃ w4, w3.alloc (.cells #[.string ⟨(F8.lab sm).toArray⟩] 9) = w4 := ⟨_, rfl⟩; obtain ⟨hm4, hs4, hr4, hc4⟩ := F8.words_newR HM3.out (F8.lab sm) hw4; have HR4 := Lib.hid hr4; have HC4 := Lib.hid hc4; clear hr4 hc4; have HM4 := Lib.hid hm4; have HS4 := Lib.hid (HS3.out.trans hs4); have HT4 := Lib.hid (HT3.out.trans hs4); clear hm4 hs4; obtain ⟨⟨q40, q41, q42⟩, _⟩ := HBX.out _ HS4.out)
    | (at_builtin; refine wpList_appendRB rfl _ _ _ _ rfl lsrt (by decide) w1.heap.size _ rfl xl.length (L6.sv xl) (HAT.out _ HT4.out) _ rfl 1 [.string ⟨(F8.lab sm).toArray⟩] HC4.out BDA.out.1 BDA.out.2 HS4.out.below.size ?_; intro vA w5 ho5 hb5 hg5 hv5; obtain ⟨AA, cA, rfl⟩ := (Rd.of_own ho5).form; have HM5 := Lib.hid (HM4.out.grownText F8.ur (HAT.out _ HT4.out) (fun k hk => Nat.le_trans HH1.out (own_ge (HAT.out _ HT4.out) k hk)) hg5 (hb5.mono HB1.out)); have HS5 := Lib.hid (HS4.out.grownNew hg5 (own_ge (HAT.out _ HT4.out)) (hb5.mono HB1.out) HGM.out); have HA := Lib.hid (show OwnS w1.heap.size w5 (.slice AA (xl.length + 1) cA) (xl ++ [(F8.lab sm)]) from by unfold OwnS; simpa [L6.sv_append, L6.sv] using ho5); clear ho5 hb5 hg5 hv5; obtain ⟨⟨q50, q51, q52⟩, _⟩ := HBX.out _ HS5.out)
    | (go_at_call 75; with_reducible refine (rputw_any _ HM5.out (.slice AA (xl.length + 1) cA) (.slice none 0 0) (xl ++ [(F8.lab sm)]) [] [] (F8.Z.of_own (OwnS.rebase HA.out HB1.out)) (F8.Z.of_own (OwnS.nil _ _)) (by have := HNO.out; have := HNP.out; have := HNM.out; (try simp only [List.length_append, List.length_cons, List.length_nil]); omega)).mono ?_; rintro e w6 ⟨rfl, hm6, hs6⟩; have HM6 := Lib.hid hm6; have HS6 := Lib.hid (HS5.out.trans hs6); clear hm6 hs6; obtain ⟨⟨q60, q61, q62⟩, _⟩ := HBX.out _ HS6.out; obtain ⟨AP, cP, p1, hpo, hps, hpz, hpp⟩ := F8.Mk.pushAt F8.ur frort HM6.out [98, 101, 103, 105, 110] (F8.lab sm); have HPO := Lib.hid hpo; have HPS := Lib.hid hps; have HPZ := Lib.hid hpz; have HPP := Lib.hid hpp; clear hpo hps hpz hpp)
    | (at_builtin; refine wpList_appendRB rfl _ _ _ _ rfl frort (by decide) B _ rfl (sp).length (F8.opc (sp)) HPO.out _ rfl 1 [.string ⟨[98, 101, 103, 105, 110].toArray⟩, .string ⟨(F8.lab sm).toArray⟩] HPS.out BDP.out.1 BDP.out.2 HPZ.out ?_; intro vP wP ho hb hg hv; obtain ⟨⟨AQ, cQ, rfl⟩, p2, p3, HMP⟩ := HPP.out _ _ ho hb hg hv; clear ho hb hg hv))
  go_ret
  exact ⟨rfl, HMP.out.1.later HMP.out.1.le (Nat.le_refl _), HST.out.trans (HS6.out.trans HMP.out.2)⟩
set_option maxRecDepth 100000 in
set_option maxHeartbeats 4000000 in
theorem rline_else {B gm H : Nat} {S : F8.St} (w : World) (vl va : Value) (x : L6.Line) (h : F8.RLineIn B gm H S w vl va x) (hx : x.word = [101, 108, 115, 101]) :
    Calls Tryd.prog 38 #[.pointer (some ⟨gm, 0, none⟩), .agg #[vl, .string ⟨x.word.toArray⟩, va]] w (F8.RLinePost B gm w (F8.doc .elseK S x)) := by
  obtain ⟨so, sp, sm⟩ := S
  obtain ⟨xl, xw, xa⟩ := x
  dsimp only at hx
  subst hx
  obtain ⟨A1, c1, rfl⟩ := h.l.form
  obtain ⟨A2, c2, rfl⟩ := h.a.form
  obtain ⟨w1, hw1⟩ : ∃ w1, w.alloc (.cells #[.slice A1 xl.length c1, .string ⟨#[101, 108, 115, 101]⟩, .slice A2 xa.length c2] 41) = w1 := ⟨_, rfl⟩
  obtain ⟨hm1, hs1, hal, hbx⟩ := h.boxed hw1
  have HST := Lib.hid hs1
  have HBX := Lib.hid hbx
  obtain ⟨⟨q0, q1, q2⟩, hzl, hza⟩ := hbx w1 (F8.Stay.refl gm B w1)
  have HNO := Lib.hid (show so.length ≤ 90000 from h.out)
  have HNP := Lib.hid (show sp.length ≤ 90000 from h.opn)
  have HNM := Lib.hid (show sm ≤ 90000 from h.made)
  have HH1 := Lib.hid (show H ≤ w1.heap.size from hm1.le)
  have HB1 := Lib.hid (show B ≤ w1.heap.size from hm1.size)
  have HGM := Lib.hid hm1.lt
  have HLL := Lib.hid (show xl.length ≤ 100000 from h.ll)
  have CF := Lib.hid (rfunc1_any (.slice A1 xl.length c1) xl w1 hzl.rd (Nat.le_trans HLL.out (by decide)))
  have HM1 := Lib.hid hm1
  clear h hm1 hs1 hal hbx hzl hza
  go_enter Tryd.func38, Tryd.ntmps38
  go_wp2_with (go_at_call 70; refine CF.out.mono ?_)
  rintro e w2 ⟨vat, rfl, hat, hb2⟩
  obtain ⟨AT, cT, rfl⟩ := hat.form
  have HM2 := Lib.hid (HM1.out.kept hb2)
  have HS2 := Lib.hid (F8.Stay.of (gm := gm) hb2 HB1.out HGM.out)
  have HT2 := Lib.hid (F8.Stay.refl gm B w2)
  have HAT := Lib.hid (fun W (hs : F8.Stay gm B w2 W) => OwnS.stay hat hs)
  obtain ⟨⟨q20, q21, q22⟩, _⟩ := HBX.out _ HS2.out
  clear hat hb2 q0 q1 q2
  cases sp with
  | nil =>
    have HR := Lib.hid (show F8.doc .elseK ⟨so, [], sm⟩ ⟨xl, [101, 108, 115, 101], xa⟩ = none from rfl)
    go_wp2_with (first
      | (go_at_call 73; refine ((rtop_any _ HM2.out (by have := HNO.out; have := HNP.out; have := HNM.out; (try simp only [List.length_append, List.length_cons, List.length_nil]); omega)).mono (R' := fun e w' => e = .returned (.string ⟨([] : List UInt8).toArray⟩) ∧ Below w2.heap.size w2 w') (fun _ _ hh => hh)).mono ?_; rintro e w3 ⟨rfl, hb3⟩; have hm3 := HM2.out.kept hb3; have hs3 := F8.Stay.of (gm := gm) hb3 HM2.out.size HM2.out.lt; clear hb3; have HM3 := Lib.hid hm3; have HS3 := Lib.hid (HS2.out.trans hs3); have HT3 := Lib.hid (HT2.out.trans hs3); clear hm3 hs3; obtain ⟨⟨q30, q31, q32⟩, _⟩ := HBX.out _ HS3.out))
    go_ret
    rw [HR.out]
    exact ⟨rfl, HST.out.below.trans HS3.out.below⟩
  | cons q r =>
    obtain ⟨wt, kt⟩ := q
    have HRL := Lib.hid (show r.length ≤ 90000 from by have := HNP.out; simp only [List.length_cons] at this; omega)
    by_cases hwt0 : wt = [105, 102]
    · subst hwt0
      have BDP := Lib.hid (show ((r).length + 1) * 32 ≤ 140737488355328 ∧ (r).length + 1 ≤ maxLen from by have := HRL.out; unfold maxLen; (try simp only [List.length_cons]); omega)
      go_wp2_with (first
        | (go_at_call 73; refine ((rtop_any _ HM2.out (by have := HNO.out; have := HRL.out; have := HNM.out; (try simp only [List.length_append, List.length_cons, List.length_nil]); omega)).mono (R' := fun e w' => e = .returned (.string ⟨[105, 102].toArray⟩) ∧ Below w2.heap.size w2 w') (fun _ _ hh => hh)).mono ?_; rintro e w3 ⟨rfl, hb3⟩; have hm3 := HM2.out.kept hb3; have hs3 := F8.Stay.of (gm := gm) hb3 HM2.out.size HM2.out.lt; clear hb3; have HM3 := Lib.hid hm3; have HS3 := Lib.hid (HS2.out.trans hs3); have HT3 := Lib.hid (HT2.out.trans hs3); clear hm3 hs3; obtain ⟨⟨q30, q31, q32⟩, _⟩ := HBX.out _ HS3.out)
        | (go_at_call 74; with_reducible refine (rpop_any _ HM3.out (by have := HNO.out; have := HRL.out; have := HNM.out; (try simp only [List.length_append, List.length_cons, List.length_nil]); omega)).mono ?_; rintro e w4 ⟨rfl, hm4, hs4⟩; have HM4 := Lib.hid hm4; have HS4 := Lib.hid (HS3.out.trans hs4); have HT4 := Lib.hid (HT3.out.trans hs4); clear hm4 hs4; obtain ⟨⟨q40, q41, q42⟩, _⟩ := HBX.out _ HS4.out)
        | (go_at_call 71; with_reducible refine (rlabel8_any _ HM4.out (by have := HNO.out; have := HRL.out; have := HNM.out; (try simp only [List.length_append, List.length_cons, List.length_nil]); omega)).mono ?_; rintro e w5 ⟨rfl, hm5, hs5⟩; have HM5 := Lib.hid hm5; have HS5 := Lib.hid (HS4.out.trans hs5); have HT5 := Lib.hid (HT4.out.trans hs5); clear hm5 hs5; obtain ⟨⟨q50, q51, q52⟩, _⟩ := HBX.out _ HS5.out; obtain ⟨w6, hw6⟩ : ∃ w6, w5.alloc (.cells #[.string ⟨(F8.lab sm).toArray⟩] 9) = w6 := ⟨_, rfl⟩; obtain ⟨hm6, hs6, hr6, hc6⟩ := F8.words_newR HM5.out (F8.lab sm) hw6; have HR6 := Lib.hid hr6; have HC6 := Lib.hid hc6; clear hr6 hc6; have HM6 := Lib.hid hm6; have HS6 := Lib.hid (HS5.out.trans hs6); have HT6 := Lib.hid (HT5.out.trans hs6); clear hm6 hs6; obtain ⟨⟨q60, q61, q62⟩, _⟩ := HBX.out _ HS6.out)
        | (go_at_call 75; with_reducible refine (rputw_any _ HM6.out (.slice AT xl.length cT) (.slice (some ⟨w5.heap.size, 0, none⟩) 1 1) xl [106] [(F8.lab sm)] (F8.Z.of_own (OwnS.rebase (HAT.out _ HT6.out) HB1.out)) (F8.Z.of_own (OwnS.rebase HR6.out HM5.out.size)) (by have := HNO.out; have := HRL.out; have := HNM.out; (try simp only [List.length_append, List.length_cons, List.length_nil]); omega)).mono ?_; rintro e w7 ⟨rfl, hm7, hs7⟩; have HM7 := Lib.hid hm7; have HS7 := Lib.hid (HS6.out.trans hs7); have HT7 := Lib.hid (HT6.out.trans hs7); clear hm7 hs7; obtain ⟨⟨q70, q71, q72⟩, _⟩ := HBX.out _ HS7.out; obtain ⟨w8, hw8⟩ : ∃ w8, w7.alloc (.cells #[.string ⟨kt.toArray⟩] 9) = w8 := ⟨_, rfl⟩; obtain ⟨hm8, hs8, hr8, hc8⟩ := F8.words_newR HM7.out kt hw8; have HR8 := Lib.hid hr8; have HC8 := Lib.hid hc8; clear hr8 hc8; have HM8 := Lib.hid hm8; have HS8 := Lib.hid (HS7.out.trans hs8); have HT8 := Lib.hid (HT7.out.trans hs8); clear hm8 hs8; obtain ⟨⟨q80, q81, q82⟩, _⟩ := HBX.out _ HS8.out)
        | (go_at_call 75; with_reducible refine (rputw_any _ HM8.out (.slice (some ⟨w7.heap.size, 0, none⟩) 1 1) (.slice none 0 0) [kt] [] [] (F8.Z.of_own (OwnS.rebase HR8.out HM7.out.size)) (F8.Z.of_own (OwnS.nil _ _)) (by have := HNO.out; have := HRL.out; have := HNM.out; (try simp only [List.length_append, List.length_cons, List.length_nil]); omega)).mono ?_; rintro e w9 ⟨rfl, hm9, hs9⟩; have HM9 := Lib.hid hm9; have HS9 := Lib.hid (HS8.out.trans hs9); have HT9 := Lib.hid (HT8.out.trans hs9); clear hm9 hs9; obtain ⟨⟨q90, q91, q92⟩, _⟩ := HBX.out _ HS9.out; obtain ⟨AP, cP, p1, hpo, hps, hpz, hpp⟩ := F8.Mk.pushAt F8.ur frort HM9.out [101, 108, 115, 101] (F8.lab sm); have HPO := Lib.hid hpo; have HPS := Lib.hid hps; have HPZ := Lib.hid hpz; have HPP := Lib.hid hpp; clear hpo hps hpz hpp)
        | (at_builtin; refine wpList_appendRB rfl _ _ _ _ rfl frort (by decide) B _ rfl (r).length (F8.opc (r)) HPO.out _ rfl 1 [.string ⟨[101, 108, 115, 101].toArray⟩, .string ⟨(F8.lab sm).toArray⟩] HPS.out BDP.out.1 BDP.out.2 HPZ.out ?_; intro vP wP ho hb hg hv; obtain ⟨⟨AQ, cQ, rfl⟩, p2, p3, HMP⟩ := HPP.out _ _ ho hb hg hv; clear ho hb hg hv))
      go_ret
      exact ⟨rfl, HMP.out.1.later HMP.out.1.le (Nat.le_refl _), HST.out.trans (HS9.out.trans HMP.out.2)⟩
    have HR := Lib.hid (show F8.doc .elseK ⟨so, (wt, kt) :: r, sm⟩ ⟨xl, [101, 108, 115, 101], xa⟩ = none from by
      simp only [F8.doc, F8.own]
      rw [if_neg (show ¬ wt = F8.wIf from hwt0)])
    have e0 := F8.word_ne hwt0
    clear hwt0
    go_wp2_with (first
      | (go_at_call 73; refine ((rtop_any _ HM2.out (by have := HNO.out; have := HRL.out; have := HNM.out; (try simp only [List.length_append, List.length_cons, List.length_nil]); omega)).mono (R' := fun e w' => e = .returned (.string ⟨wt.toArray⟩) ∧ Below w2.heap.size w2 w') (fun _ _ hh => hh)).mono ?_; rintro e w3 ⟨rfl, hb3⟩; have hm3 := HM2.out.kept hb3; have hs3 := F8.Stay.of (gm := gm) hb3 HM2.out.size HM2.out.lt; clear hb3; have HM3 := Lib.hid hm3; have HS3 := Lib.hid (HS2.out.trans hs3); have HT3 := Lib.hid (HT2.out.trans hs3); clear hm3 hs3; obtain ⟨⟨q30, q31, q32⟩, _⟩ := HBX.out _ HS3.out))
    go_ret
    rw [HR.out]
    exact ⟨rfl, HST.out.below.trans HS3.out.below⟩
set_option maxRecDepth 100000 in
set_option maxHeartbeats 4000000 in
theorem rline_then {B gm H : Nat} {S : F8.St} (w : World) (vl va : Value) (x : L6.Line) (h : F8.RLineIn B gm H S w vl va x) (hx : x.word = [116, 104, 101, 110]) :
    Calls Tryd.prog 38 #[.pointer (some ⟨gm, 0, none⟩), .agg #[vl, .string ⟨x.word.toArray⟩, va]] w (F8.RLinePost B gm w (F8.doc .thenK S x)) := by
  obtain ⟨so, sp, sm⟩ := S
  obtain ⟨xl, xw, xa⟩ := x
  dsimp only at hx
  subst hx
  obtain ⟨A1, c1, rfl⟩ := h.l.form
  obtain ⟨A2, c2, rfl⟩ := h.a.form
  obtain ⟨w1, hw1⟩ : ∃ w1, w.alloc (.cells #[.slice A1 xl.length c1, .string ⟨#[116, 104, 101, 110]⟩, .slice A2 xa.length c2] 41) = w1 := ⟨_, rfl⟩
  obtain ⟨hm1, hs1, hal, hbx⟩ := h.boxed hw1
  have HST := Lib.hid hs1
  have HBX := Lib.hid hbx
  obtain ⟨⟨q0, q1, q2⟩, hzl, hza⟩ := hbx w1 (F8.Stay.refl gm B w1)
  have HNO := Lib.hid (show so.length ≤ 90000 from h.out)
  have HNP := Lib.hid (show sp.length ≤ 90000 from h.opn)
  have HNM := Lib.hid (show sm ≤ 90000 from h.made)
  have HH1 := Lib.hid (show H ≤ w1.heap.size from hm1.le)
  have HB1 := Lib.hid (show B ≤ w1.heap.size from hm1.size)
  have HGM := Lib.hid hm1.lt
  have HLL := Lib.hid (show xl.length ≤ 100000 from h.ll)
  have CF := Lib.hid (rfunc1_any (.slice A1 xl.length c1) xl w1 hzl.rd (Nat.le_trans HLL.out (by decide)))
  have HM1 := Lib.hid hm1
  clear h hm1 hs1 hal hbx hzl hza
  go_enter Tryd.func38, Tryd.ntmps38
  go_wp2_with (go_at_call 70; refine CF.out.mono ?_)
  rintro e w2 ⟨vat, rfl, hat, hb2⟩
  obtain ⟨AT, cT, rfl⟩ := hat.form
  have HM2 := Lib.hid (HM1.out.kept hb2)
  have HS2 := Lib.hid (F8.Stay.of (gm := gm) hb2 HB1.out HGM.out)
  have HT2 := Lib.hid (F8.Stay.refl gm B w2)
  have HAT := Lib.hid (fun W (hs : F8.Stay gm B w2 W) => OwnS.stay hat hs)
  obtain ⟨⟨q20, q21, q22⟩, _⟩ := HBX.out _ HS2.out
  clear hat hb2 q0 q1 q2
  cases sp with
  | nil =>
    have HR := Lib.hid (show F8.doc .thenK ⟨so, [], sm⟩ ⟨xl, [116, 104, 101, 110], xa⟩ = none from rfl)
    go_wp2_with (first
      | (go_at_call 73; refine ((rtop_any _ HM2.out (by have := HNO.out; have := HNP.out; have := HNM.out; (try simp only [List.length_append, List.length_cons, List.length_nil]); omega)).mono (R' := fun e w' => e = .returned (.string ⟨([] : List UInt8).toArray⟩) ∧ Below w2.heap.size w2 w') (fun _ _ hh => hh)).mono ?_; rintro e w3 ⟨rfl, hb3⟩; have hm3 := HM2.out.kept hb3; have hs3 := F8.Stay.of (gm := gm) hb3 HM2.out.size HM2.out.lt; clear hb3; have HM3 := Lib.hid hm3; have HS3 := Lib.hid (HS2.out.trans hs3); have HT3 := Lib.hid (HT2.out.trans hs3); clear hm3 hs3; obtain ⟨⟨q30, q31, q32⟩, _⟩ := HBX.out _ HS3.out)
      | (go_at_call 73; refine ((rtop_any _ HM3.out (by have := HNO.out; have := HNP.out; have := HNM.out; (try simp only [List.length_append, List.length_cons, List.length_nil]); omega)).mono (R' := fun e w' => e = .returned (.string ⟨([] : List UInt8).toArray⟩) ∧ Below w3.heap.size w3 w') (fun _ _ hh => hh)).mono ?_; rintro e w4 ⟨rfl, hb4⟩; have hm4 := HM3.out.kept hb4; have hs4 := F8.Stay.of (gm := gm) hb4 HM3.out.size HM3.out.lt; clear hb4; have HM4 := Lib.hid hm4; have HS4 := Lib.hid (HS3.out.trans hs4); have HT4 := Lib.hid (HT3.out.trans hs4); clear hm4 hs4; obtain ⟨⟨q40, q41, q42⟩, _⟩ := HBX.out _ HS4.out))
    go_ret
    rw [HR.out]
    exact ⟨rfl, HST.out.below.trans HS4.out.below⟩
  | cons q r =>
    obtain ⟨wt, kt⟩ := q
    have HRL := Lib.hid (show r.length ≤ 90000 from by have := HNP.out; simp only [List.length_cons] at this; omega)
    by_cases hwt0 : wt = [105, 102]
    · subst hwt0
      have BDA := Lib.hid (show (xl.length + 1) * 16 ≤ 140737488355328 ∧ xl.length + 1 ≤ maxLen from by have := HLL.out; unfold maxLen; omega)
      go_wp2_with (first
        | (go_at_call 73; refine ((rtop_any _ HM2.out (by have := HNO.out; have := HRL.out; have := HNM.out; (try simp only [List.length_append, List.length_cons, List.length_nil]); omega)).mono (R' := fun e w' => e = .returned (.string ⟨[105, 102].toArray⟩) ∧ Below w2.heap.size w2 w') (fun _ _ hh => hh)).mono ?_; rintro e w3 ⟨rfl, hb3⟩; have hm3 := HM2.out.kept hb3; have hs3 := F8.Stay.of (gm := gm) hb3 HM2.out.size HM2.out.lt; clear hb3; have HM3 := Lib.hid hm3; have HS3 := Lib.hid (HS2.out.trans hs3); have HT3 := Lib.hid (HT2.out.trans hs3); clear hm3 hs3; obtain ⟨⟨q30, q31, q32⟩, _⟩ := HBX.out _ HS3.out)
        | (go_at_call 74; with_reducible refine (rpop_any _ HM3.out (by have := HNO.out; have := HRL.out; have := HNM.out; (try simp only [List.length_append, List.length_cons, List.length_nil]); omega)).mono ?_; rintro e w5 ⟨rfl, hm5, hs5⟩; have HM5 := Lib.hid hm5; have HS5 := Lib.hid (HS3.out.trans hs5); have HT5 := Lib.hid (HT3.out.trans hs5); clear hm5 hs5; obtain ⟨⟨q50, q51, q52⟩, _⟩ := HBX.out _ HS5.out; obtain ⟨w6, hw6⟩ : ∃ w6, w5.alloc (.cells #[.string ⟨kt.toArray⟩] 9) = w6 := ⟨_, rfl⟩; obtain ⟨hm6, hs6, hr6, hc6⟩ := F8.words_newR HM5.out kt hw6; have HR6 := Lib.hid hr6; have HC6 := Lib.hid hc6; clear hr6 hc6; have HM6 := Lib.hid hm6; have HS6 := Lib.hid (HS5.out.trans hs6); have HT6 := Lib.hid (HT5.out.trans hs6); clear hm6 hs6; obtain ⟨⟨q60, q61, q62⟩, _⟩ := HBX.out _ HS6.out)
        | (at_builtin; refine wpList_appendRB rfl _ _ _ _ rfl lsrt (by decide) w1.heap.size _ rfl xl.length (L6.sv xl) (HAT.out _ HT6.out) _ rfl 1 [.string ⟨kt.toArray⟩] HC6.out BDA.out.1 BDA.out.2 HS6.out.below.size ?_; intro vA w7 ho7 hb7 hg7 hv7; obtain ⟨AA, cA, rfl⟩ := (Rd.of_own ho7).form; have HM7 := Lib.hid (HM6.out.grownText F8.ur (HAT.out _ HT6.out) (fun k hk => Nat.le_trans HH1.out (own_ge (HAT.out _ HT6.out) k hk)) hg7 (hb7.mono HB1.out)); have HS7 := Lib.hid (HS6.out.grownNew hg7 (own_ge (HAT.out _ HT6.out)) (hb7.mono HB1.out) HGM.out); have HA := Lib.hid (show OwnS w1.heap.size w7 (.slice AA (xl.length + 1) cA) (xl ++ [kt]) from by unfold OwnS; simpa [L6.sv_append, L6.sv] using ho7); clear ho7 hb7 hg7 hv7; obtain ⟨⟨q70, q71, q72⟩, _⟩ := HBX.out _ HS7.out)
        | (go_at_call 75; with_reducible refine (rputw_any _ HM7.out (.slice AA (xl.length + 1) cA) (.slice none 0 0) (xl ++ [kt]) [] [] (F8.Z.of_own (OwnS.rebase HA.out HB1.out)) (F8.Z.of_own (OwnS.nil _ _)) (by have := HNO.out; have := HRL.out; have := HNM.out; (try simp only [List.length_append, List.length_cons, List.length_nil]); omega)).mono ?_; rintro e w8 ⟨rfl, hm8, hs8⟩; have HM8 := Lib.hid hm8; have HS8 := Lib.hid (HS7.out.trans hs8); clear hm8 hs8; obtain ⟨⟨q80, q81, q82⟩, _⟩ := HBX.out _ HS8.out))
      go_ret
      exact ⟨rfl, HM8.out.later HM8.out.le (Nat.le_refl _), HST.out.trans HS8.out⟩
    by_cases hwt1 : wt = [101, 108, 115, 101]
    · subst hwt1
      have BDA := Lib.hid (show (xl.length + 1) * 16 ≤ 140737488355328 ∧ xl.length + 1 ≤ maxLen from by have := HLL.out; unfold maxLen; omega)
      go_wp2_with (first
        | (go_at_call 73; refine ((rtop_any _ HM2.out (by have := HNO.out; have := HRL.out; have := HNM.out; (try simp only [List.length_append, List.length_cons, List.length_nil]); omega)).mono (R' := fun e w' => e = .returned (.string ⟨[101, 108, 115, 101].toArray⟩) ∧ Below w2.heap.size w2 w') (fun _ _ hh => hh)).mono ?_; rintro e w3 ⟨rfl, hb3⟩; have hm3 := HM2.out.kept hb3; have hs3 := F8.Stay.of (gm := gm) hb3 HM2.out.size HM2.out.lt; clear hb3; have HM3 := Lib.hid hm3; have HS3 := Lib.hid (HS2.out.trans hs3); have HT3 := Lib.hid (HT2.out.trans hs3); clear hm3 hs3; obtain ⟨⟨q30, q31, q32⟩, _⟩ := HBX.out _ HS3.out)
        | (go_at_call 73; refine ((rtop_any _ HM3.out (by have := HNO.out; have := HRL.out; have := HNM.out; (try simp only [List.length_append, List.length_cons, List.length_nil]); omega)).mono (R' := fun e w' => e = .returned (.string ⟨[101, 108, 115, 101].toArray⟩) ∧ Below w3.heap.size w3 w') (fun _ _ hh => hh)).mono ?_; rintro e w4 ⟨rfl, hb4⟩; have hm4 := HM3.out.kept hb4; have hs4 := F8.Stay.of (gm := gm) hb4 HM3.out.size HM3.out.lt; clear hb4; have HM4 := Lib.hid hm4; have HS4 := Lib.hid (HS3.out.trans hs4); have HT4 := Lib.hid (HT3.out.trans hs4); clear hm4 hs4; obtain ⟨⟨q40, q41, q42⟩, _⟩ := HBX.out _ HS4.out)
        | (go_at_call 74; with_reducible refine (rpop_any _ HM4.out (by have := HNO.out; have := HRL.out; have := HNM.out; (try simp only [List.length_append, List.length_cons, List.length_nil]); omega)).mono ?_; rintro e w5 ⟨rfl, hm5, hs5⟩; have HM5 := Lib.hid hm5; have HS5 := Lib.hid (HS4.out.trans hs5); have HT5 := Lib.hid (HT4.out.trans hs5); clear hm5 hs5; obtain ⟨⟨q50, q51, q52⟩, _⟩ := HBX.out _ HS5.out; obtain ⟨w6, hw6⟩ : ∃ w6, w5.alloc (.cells #[.string ⟨kt.toArray⟩] 9) = w6 := ⟨_, rfl⟩; obtain ⟨hm6, hs6, hr6, hc6⟩ := F8.words_newR HM5.out kt hw6; have HR6 := Lib.hid hr6; have HC6 := Lib.hid hc6; clear hr6 hc6; have HM6 := Lib.hid hm6; have HS6 := Lib.hid (HS5.out.trans hs6); have HT6 := Lib.hid (HT5.out.trans hs6); clear hm6 hs6; obtain ⟨⟨q60, q61, q62⟩, _⟩ := HBX.out _ HS6.out)
        | (at_builtin; refine wpList_appendRB rfl _ _ _ _ rfl lsrt (by decide) w1.heap.size _ rfl xl.length (L6.sv xl) (HAT.out _ HT6.out) _ rfl 1 [.string ⟨kt.toArray⟩] HC6.out BDA.out.1 BDA.out.2 HS6.out.below.size ?_; intro vA w7 ho7 hb7 hg7 hv7; obtain ⟨AA, cA, rfl⟩ := (Rd.of_own ho7).form; have HM7 := Lib.hid (HM6.out.grownText F8.ur (HAT.out _ HT6.out) (fun k hk => Nat.le_trans HH1.out (own_ge (HAT.out _ HT6.out) k hk)) hg7 (hb7.mono HB1.out)); have HS7 := Lib.hid (HS6.out.grownNew hg7 (own_ge (HAT.out _ HT6.out)) (hb7.mono HB1.out) HGM.out); have HA := Lib.hid (show OwnS w1.heap.size w7 (.slice AA (xl.length + 1) cA) (xl ++ [kt]) from by unfold OwnS; simpa [L6.sv_append, L6.sv] using ho7); clear ho7 hb7 hg7 hv7; obtain ⟨⟨q70, q71, q72⟩, _⟩ := HBX.out _ HS7.out)
        | (go_at_call 75; with_reducible refine (rputw_any _ HM7.out (.slice AA (xl.length + 1) cA) (.slice none 0 0) (xl ++ [kt]) [] [] (F8.Z.of_own (OwnS.rebase HA.out HB1.out)) (F8.Z.of_own (OwnS.nil _ _)) (by have := HNO.out; have := HRL.out; have := HNM.out; (try simp only [List.length_append, List.length_cons, List.length_nil]); omega)).mono ?_; rintro e w8 ⟨rfl, hm8, hs8⟩; have HM8 := Lib.hid hm8; have HS8 := Lib.hid (HS7.out.trans hs8); clear hm8 hs8; obtain ⟨⟨q80, q81, q82⟩, _⟩ := HBX.out _ HS8.out))
      go_ret
      exact ⟨rfl, HM8.out.later HM8.out.le (Nat.le_refl _), HST.out.trans HS8.out⟩
    have HR := Lib.hid (show F8.doc .thenK ⟨so, (wt, kt) :: r, sm⟩ ⟨xl, [116, 104, 101, 110], xa⟩ = none from by
      simp only [F8.doc, F8.own]
      rw [if_neg (show ¬ (wt = F8.wIf ∨ wt = F8.wElse) from fun e => e.elim hwt0 hwt1)])
    have e0 := F8.word_ne hwt0
    have e1 := F8.word_ne hwt1
    clear hwt0
    clear hwt1
    go_wp2_with (first
      | (go_at_call 73; refine ((rtop_any _ HM2.out (by have := HNO.out; have := HRL.out; have := HNM.out; (try simp only [List.length_append, List.length_cons, List.length_nil]); omega)).mono (R' := fun e w' => e = .returned (.string ⟨wt.toArray⟩) ∧ Below w2.heap.size w2 w') (fun _ _ hh => hh)).mono ?_; rintro e w3 ⟨rfl, hb3⟩; have hm3 := HM2.out.kept hb3; have hs3 := F8.Stay.of (gm := gm) hb3 HM2.out.size HM2.out.lt; clear hb3; have HM3 := Lib.hid hm3; have HS3 := Lib.hid (HS2.out.trans hs3); have HT3 := Lib.hid (HT2.out.trans hs3); clear hm3 hs3; obtain ⟨⟨q30, q31, q32⟩, _⟩ := HBX.out _ HS3.out)
      | (go_at_call 73; refine ((rtop_any _ HM3.out (by have := HNO.out; have := HRL.out; have := HNM.out; (try simp only [List.length_append, List.length_cons, List.length_nil]); omega)).mono (R' := fun e w' => e = .returned (.string ⟨wt.toArray⟩) ∧ Below w3.heap.size w3 w') (fun _ _ hh => hh)).mono ?_; rintro e w4 ⟨rfl, hb4⟩; have hm4 := HM3.out.kept hb4; have hs4 := F8.Stay.of (gm := gm) hb4 HM3.out.size HM3.out.lt; clear hb4; have HM4 := Lib.hid hm4; have HS4 := Lib.hid (HS3.out.trans hs4); have HT4 := Lib.hid (HT3.out.trans hs4); clear hm4 hs4; obtain ⟨⟨q40, q41, q42⟩, _⟩ := HBX.out _ HS4.out))
    go_ret
    rw [HR.out]
    exact ⟨rfl, HST.out.below.trans HS4.out.below⟩
set_option maxRecDepth 100000 in
set_option maxHeartbeats 4000000 in
theorem rline_while {B gm H : Nat} {S : F8.St} (w : World) (vl va : Value) (x : L6.Line) (h : F8.RLineIn B gm H S w vl va x) (hx : x.word = [119, 104, 105, 108, 101]) (h3 : x.args.length = 3) :
    Calls Tryd.prog 38 #[.pointer (some ⟨gm, 0, none⟩), .agg #[vl, .string ⟨x.word.toArray⟩, va]] w (F8.RLinePost B gm w (F8.doc .whileK S x)) := by
  obtain ⟨so, sp, sm⟩ := S
  obtain ⟨xl, xw, xa⟩ := x
  dsimp only at hx
  subst hx
  obtain ⟨A1, c1, rfl⟩ := h.l.form
  obtain ⟨A2, c2, rfl⟩ := h.a.form
  obtain ⟨w1, hw1⟩ : ∃ w1, w.alloc (.cells #[.slice A1 xl.length c1, .string ⟨#[119, 104, 105, 108, 101]⟩, .slice A2 xa.length c2] 41) = w1 := ⟨_, rfl⟩
  obtain ⟨hm1, hs1, hal, hbx⟩ := h.boxed hw1
  have HST := Lib.hid hs1
  have HBX := Lib.hid hbx
  obtain ⟨⟨q0, q1, q2⟩, hzl, hza⟩ := hbx w1 (F8.Stay.refl gm B w1)
  have HNO := Lib.hid (show so.length ≤ 90000 from h.out)
  have HNP := Lib.hid (show sp.length ≤ 90000 from h.opn)
  have HNM := Lib.hid (show sm ≤ 90000 from h.made)
  have HH1 := Lib.hid (show H ≤ w1.heap.size from hm1.le)
  have HB1 := Lib.hid (show B ≤ w1.heap.size from hm1.size)
  have HGM := Lib.hid hm1.lt
  have HLL := Lib.hid (show xl.length ≤ 100000 from h.ll)
  have CF := Lib.hid (rfunc1_any (.slice A1 xl.length c1) xl w1 hzl.rd (Nat.le_trans HLL.out (by decide)))
  have HM1 := Lib.hid hm1
  have H3 := Lib.hid (show xa.length = 3 from h3)
  clear h hm1 hs1 hal hbx hzl hza h3
  go_enter Tryd.func38, Tryd.ntmps38
  go_wp2_with (go_at_call 70; refine CF.out.mono ?_)
  rintro e w2 ⟨vat, rfl, hat, hb2⟩
  obtain ⟨AT, cT, rfl⟩ := hat.form
  have HM2 := Lib.hid (HM1.out.kept hb2)
  have HS2 := Lib.hid (F8.Stay.of (gm := gm) hb2 HB1.out HGM.out)
  have HT2 := Lib.hid (F8.Stay.refl gm B w2)
  have HAT := Lib.hid (fun W (hs : F8.Stay gm B w2 W) => OwnS.stay hat hs)
  obtain ⟨⟨q20, q21, q22⟩, _⟩ := HBX.out _ HS2.out
  clear hat hb2 q0 q1 q2
  cases sp with
  | nil =>
    have HR := Lib.hid (show F8.doc .whileK ⟨so, [], sm⟩ ⟨xl, [119, 104, 105, 108, 101], xa⟩ = none from rfl)
    go_wp2_with (first
      | (go_at_call 73; refine ((rtop_any _ HM2.out (by have := HNO.out; have := HNP.out; have := HNM.out; (try simp only [List.length_append, List.length_cons, List.length_nil]); omega)).mono (R' := fun e w' => e = .returned (.string ⟨([] : List UInt8).toArray⟩) ∧ Below w2.heap.size w2 w') (fun _ _ hh => hh)).mono ?_; rintro e w3 ⟨rfl, hb3⟩; have hm3 := HM2.out.kept hb3; have hs3 := F8.Stay.of (gm := gm) hb3 HM2.out.size HM2.out.lt; clear hb3; have HM3 := Lib.hid hm3; have HS3 := Lib.hid (HS2.out.trans hs3); have HT3 := Lib.hid (HT2.out.trans hs3); clear hm3 hs3; obtain ⟨⟨q30, q31, q32⟩, _⟩ := HBX.out _ HS3.out))
    go_ret
    rw [HR.out]
    exact ⟨rfl, HST.out.below.trans HS3.out.below⟩
  | cons q r =>
    obtain ⟨wt, kt⟩ := q
    have HRL := Lib.hid (show r.length ≤ 90000 from by have := HNP.out; simp only [List.length_cons] at this; omega)
    by_cases hwt0 : wt = [98, 101, 103, 105, 110]
    · subst hwt0
      have BDP := Lib.hid (show (((F8.wBegin, kt) :: r).length + 1) * 32 ≤ 140737488355328 ∧ ((F8.wBegin, kt) :: r).length + 1 ≤ maxLen from by have := HRL.out; unfold maxLen; (try simp only [List.length_cons]); omega)
      go_wp2_with (first
        | (go_at_call 73; refine ((rtop_any _ HM2.out (by have := HNO.out; have := HRL.out; have := HNM.out; (try simp only [List.length_append, List.length_cons, List.length_nil]); omega)).mono (R' := fun e w' => e = .returned (.string ⟨[98, 101, 103, 105, 110].toArray⟩) ∧ Below w2.heap.size w2 w') (fun _ _ hh => hh)).mono ?_; rintro e w3 ⟨rfl, hb3⟩; have hm3 := HM2.out.kept hb3; have hs3 := F8.Stay.of (gm := gm) hb3 HM2.out.size HM2.out.lt; clear hb3; have HM3 := Lib.hid hm3; have HS3 := Lib.hid (HS2.out.trans hs3); have HT3 := Lib.hid (HT2.out.trans hs3); clear hm3 hs3; obtain ⟨⟨q30, q31, q32⟩, _⟩ := HBX.out _ HS3.out)
        | (go_at_call 71; with_reducible refine (rlabel8_any _ HM3.out (by have := HNO.out; have := HRL.out; have := HNM.out; (try simp only [List.length_append, List.length_cons, List.length_nil]); omega)).mono ?_; rintro e w4 ⟨rfl, hm4, hs4⟩; have HM4 := Lib.hid hm4; have HS4 := Lib.hid (HS3.out.trans hs4); have HT4 := Lib.hid (HT3.out.trans hs4); clear hm4 hs4; obtain ⟨⟨q40, q41, q42⟩, _⟩ := HBX.out _ HS4.out)
        | (go_at_call 72; with_reducible refine (rbranch_any _ HM4.out _ _ _ ⟨xl, [], xa⟩ (F8.lab sm) (HBX.out _ HS4.out).2.1 (HBX.out _ HS4.out).2.2 H3.out (by have := HNO.out; have := HRL.out; have := HNM.out; (try simp only [List.length_append, List.length_cons, List.length_nil]); omega)).mono ?_; rintro e w5 ⟨rfl, hm5, hs5⟩; have HM5 := Lib.hid hm5; have HS5 := Lib.hid (HS4.out.trans hs5); have HT5 := Lib.hid (HT4.out.trans hs5); clear hm5 hs5; obtain ⟨⟨q50, q51, q52⟩, _⟩ := HBX.out _ HS5.out; obtain ⟨AP, cP, p1, hpo, hps, hpz, hpp⟩ := F8.Mk.pushAt F8.ur frort HM5.out [119, 104, 105, 108, 101] (F8.lab sm); have HPO := Lib.hid hpo; have HPS := Lib.hid hps; have HPZ := Lib.hid hpz; have HPP := Lib.hid hpp; clear hpo hps hpz hpp)
        | (at_builtin; refine wpList_appendRB rfl _ _ _ _ rfl frort (by decide) B _ rfl (([98, 101, 103, 105, 110], kt) :: r).length (F8.opc (([98, 101, 103, 105, 110], kt) :: r)) HPO.out _ rfl 1 [.string ⟨[119, 104, 105, 108, 101].toArray⟩, .string ⟨(F8.lab sm).toArray⟩] HPS.out BDP.out.1 BDP.out.2 HPZ.out ?_; intro vP wP ho hb hg hv; obtain ⟨⟨AQ, cQ, rfl⟩, p2, p3, HMP⟩ := HPP.out _ _ ho hb hg hv; clear ho hb hg hv))
      go_ret
      exact ⟨rfl, HMP.out.1.later HMP.out.1.le (Nat.le_refl _), HST.out.trans (HS5.out.trans HMP.out.2)⟩
    have HR := Lib.hid (show F8.doc .whileK ⟨so, (wt, kt) :: r, sm⟩ ⟨xl, [119, 104, 105, 108, 101], xa⟩ = none from by
      simp only [F8.doc, F8.own]
      rw [if_neg (show ¬ wt = F8.wBegin from hwt0)])
    have e0 := F8.word_ne hwt0
    clear hwt0
    go_wp2_with (first
      | (go_at_call 73; refine ((rtop_any _ HM2.out (by have := HNO.out; have := HRL.out; have := HNM.out; (try simp only [List.length_append, List.length_cons, List.length_nil]); omega)).mono (R' := fun e w' => e = .returned (.string ⟨wt.toArray⟩) ∧ Below w2.heap.size w2 w') (fun _ _ hh => hh)).mono ?_; rintro e w3 ⟨rfl, hb3⟩; have hm3 := HM2.out.kept hb3; have hs3 := F8.Stay.of (gm := gm) hb3 HM2.out.size HM2.out.lt; clear hb3; have HM3 := Lib.hid hm3; have HS3 := Lib.hid (HS2.out.trans hs3); have HT3 := Lib.hid (HT2.out.trans hs3); clear hm3 hs3; obtain ⟨⟨q30, q31, q32⟩, _⟩ := HBX.out _ HS3.out))
    go_ret
    rw [HR.out]
    exact ⟨rfl, HST.out.below.trans HS3.out.below⟩
set_option maxRecDepth 100000 in
set_option maxHeartbeats 4000000 in
theorem rline_until {B gm H : Nat} {S : F8.St} (w : World) (vl va : Value) (x : L6.Line) (h : F8.RLineIn B gm H S w vl va x) (hx : x.word = [117, 110, 116, 105, 108]) (h3 : x.args.length = 3) :
    Calls Tryd.prog 38 #[.pointer (some ⟨gm, 0, none⟩), .agg #[vl, .string ⟨x.word.toArray⟩, va]] w (F8.RLinePost B gm w (F8.doc .untilK S x)) := by
  obtain ⟨so, sp, sm⟩ := S
  obtain ⟨xl, xw, xa⟩ := x
  dsimp only at hx
  subst hx
  obtain ⟨A1, c1, rfl⟩ := h.l.form
  obtain ⟨A2, c2, rfl⟩ := h.a.form
  obtain ⟨w1, hw1⟩ : ∃ w1, w.alloc (.cells #[.slice A1 xl.length c1, .string ⟨#[117, 110, 116, 105, 108]⟩, .slice A2 xa.length c2] 41) = w1 := ⟨_, rfl⟩
  obtain ⟨hm1, hs1, hal, hbx⟩ := h.boxed hw1
  have HST := Lib.hid hs1
  have HBX := Lib.hid hbx
  obtain ⟨⟨q0, q1, q2⟩, hzl, hza⟩ := hbx w1 (F8.Stay.refl gm B w1)
  have HNO := Lib.hid (show so.length ≤ 90000 from h.out)
  have HNP := Lib.hid (show sp.length ≤ 90000 from h.opn)
  have HNM := Lib.hid (show sm ≤ 90000 from h.made)
  have HH1 := Lib.hid (show H ≤ w1.heap.size from hm1.le)
  have HB1 := Lib.hid (show B ≤ w1.heap.size from hm1.size)
  have HGM := Lib.hid hm1.lt
  have HLL := Lib.hid (show xl.length ≤ 100000 from h.ll)
  have CF := Lib.hid (rfunc1_any (.slice A1 xl.length c1) xl w1 hzl.rd (Nat.le_trans HLL.out (by decide)))
  have HM1 := Lib.hid hm1
  have H3 := Lib.hid (show xa.length = 3 from h3)
  clear h hm1 hs1 hal hbx hzl hza h3
  go_enter Tryd.func38, Tryd.ntmps38
  go_wp2_with (go_at_call 70; refine CF.out.mono ?_)
  rintro e w2 ⟨vat, rfl, hat, hb2⟩
  obtain ⟨AT, cT, rfl⟩ := hat.form
  have HM2 := Lib.hid (HM1.out.kept hb2)
  have HS2 := Lib.hid (F8.Stay.of (gm := gm) hb2 HB1.out HGM.out)
  have HT2 := Lib.hid (F8.Stay.refl gm B w2)
  have HAT := Lib.hid (fun W (hs : F8.Stay gm B w2 W) => OwnS.stay hat hs)
  obtain ⟨⟨q20, q21, q22⟩, _⟩ := HBX.out _ HS2.out
  clear hat hb2 q0 q1 q2
  cases sp with
  | nil =>
    have HR := Lib.hid (show F8.doc .untilK ⟨so, [], sm⟩ ⟨xl, [117, 110, 116, 105, 108], xa⟩ = none from rfl)
    go_wp2_with (first
      | (go_at_call 73; refine ((rtop_any _ HM2.out (by have := HNO.out; have := HNP.out; have := HNM.out; (try simp only [List.length_append, List.length_cons, List.length_nil]); omega)).mono (R' := fun e w' => e = .returned (.string ⟨([] : List UInt8).toArray⟩) ∧ Below w2.heap.size w2 w') (fun _ _ hh => hh)).mono ?_; rintro e w3 ⟨rfl, hb3⟩; have hm3 := HM2.out.kept hb3; have hs3 := F8.Stay.of (gm := gm) hb3 HM2.out.size HM2.out.lt; clear hb3; have HM3 := Lib.hid hm3; have HS3 := Lib.hid (HS2.out.trans hs3); have HT3 := Lib.hid (HT2.out.trans hs3); clear hm3 hs3; obtain ⟨⟨q30, q31, q32⟩, _⟩ := HBX.out _ HS3.out))
    go_ret
    rw [HR.out]
    exact ⟨rfl, HST.out.below.trans HS3.out.below⟩
  | cons q r =>
    obtain ⟨wt, kt⟩ := q
    have HRL := Lib.hid (show r.length ≤ 90000 from by have := HNP.out; simp only [List.length_cons] at this; omega)
    by_cases hwt0 : wt = [98, 101, 103, 105, 110]
    · subst hwt0
      go_wp2_with (first
        | (go_at_call 73; refine ((rtop_any _ HM2.out (by have := HNO.out; have := HRL.out; have := HNM.out; (try simp only [List.length_append, List.length_cons, List.length_nil]); omega)).mono (R' := fun e w' => e = .returned (.string ⟨[98, 101, 103, 105, 110].toArray⟩) ∧ Below w2.heap.size w2 w') (fun _ _ hh => hh)).mono ?_; rintro e w3 ⟨rfl, hb3⟩; have hm3 := HM2.out.kept hb3; have hs3 := F8.Stay.of (gm := gm) hb3 HM2.out.size HM2.out.lt; clear hb3; have HM3 := Lib.hid hm3; have HS3 := Lib.hid (HS2.out.trans hs3); have HT3 := Lib.hid (HT2.out.trans hs3); clear hm3 hs3; obtain ⟨⟨q30, q31, q32⟩, _⟩ := HBX.out _ HS3.out)
        | (go_at_call 74; with_reducible refine (rpop_any _ HM3.out (by have := HNO.out; have := HRL.out; have := HNM.out; (try simp only [List.length_append, List.length_cons, List.length_nil]); omega)).mono ?_; rintro e w4 ⟨rfl, hm4, hs4⟩; have HM4 := Lib.hid hm4; have HS4 := Lib.hid (HS3.out.trans hs4); have HT4 := Lib.hid (HT3.out.trans hs4); clear hm4 hs4; obtain ⟨⟨q40, q41, q42⟩, _⟩ := HBX.out _ HS4.out)
        | (go_at_call 72; with_reducible refine (rbranch_any _ HM4.out _ _ _ ⟨xl, [], xa⟩ kt (HBX.out _ HS4.out).2.1 (HBX.out _ HS4.out).2.2 H3.out (by have := HNO.out; have := HRL.out; have := HNM.out; (try simp only [List.length_append, List.length_cons, List.length_nil]); omega)).mono ?_; rintro e w5 ⟨rfl, hm5, hs5⟩; have HM5 := Lib.hid hm5; have HS5 := Lib.hid (HS4.out.trans hs5); have HT5 := Lib.hid (HT4.out.trans hs5); clear hm5 hs5; obtain ⟨⟨q50, q51, q52⟩, _⟩ := HBX.out _ HS5.out))
      go_ret
      exact ⟨rfl, HM5.out.later HM5.out.le (Nat.le_refl _), HST.out.trans HS5.out⟩
    have HR := Lib.hid (show F8.doc .untilK ⟨so, (wt, kt) :: r, sm⟩ ⟨xl, [117, 110, 116, 105, 108], xa⟩ = none from by
      simp only [F8.doc, F8.own]
      rw [if_neg (show ¬ wt = F8.wBegin from hwt0)])
    have e0 := F8.word_ne hwt0
    clear hwt0
    go_wp2_with (first
      | (go_at_call 73; refine ((rtop_any _ HM2.out (by have := HNO.out; have := HRL.out; have := HNM.out; (try simp only [List.length_append, List.length_cons, List.length_nil]); omega)).mono (R' := fun e w' => e = .returned (.string ⟨wt.toArray⟩) ∧ Below w2.heap.size w2 w') (fun _ _ hh => hh)).mono ?_; rintro e w3 ⟨rfl, hb3⟩; have hm3 := HM2.out.kept hb3; have hs3 := F8.Stay.of (gm := gm) hb3 HM2.out.size HM2.out.lt; clear hb3; have HM3 := Lib.hid hm3; have HS3 := Lib.hid (HS2.out.trans hs3); have HT3 := Lib.hid (HT2.out.trans hs3); clear hm3 hs3; obtain ⟨⟨q30, q31, q32⟩, _⟩ := HBX.out _ HS3.out))
    go_ret
    rw [HR.out]
    exact ⟨rfl, HST.out.below.trans HS3.out.below⟩
set_option maxRecDepth 100000 in
set_option maxHeartbeats 4000000 in
theorem rline_again {B gm H : Nat} {S : F8.St} (w : World) (vl va : Value) (x : L6.Line) (h : F8.RLineIn B gm H S w vl va x) (hx : x.word = [97, 103, 97, 105, 110]) :
    Calls Tryd.prog 38 #[.pointer (some ⟨gm, 0, none⟩), .agg #[vl, .string ⟨x.word.toArray⟩, va]] w (F8.RLinePost B gm w (F8.doc .againK S x)) := by
  obtain ⟨so, sp, sm⟩ := S
  obtain ⟨xl, xw, xa⟩ := x
  dsimp only at hx
  subst hx
  obtain ⟨A1, c1, rfl⟩ := h.l.form
  obtain ⟨A2, c2, rfl⟩ := h.a.form
  obtain ⟨w1, hw1⟩ : ∃ w1, w.alloc (.cells #[.slice A1 xl.length c1, .string ⟨#[97, 103, 97, 105, 110]⟩, .slice A2 xa.length c2] 41) = w1 := ⟨_, rfl⟩
  obtain ⟨hm1, hs1, hal, hbx⟩ := h.boxed hw1
  have HST := Lib.hid hs1
  have HBX := Lib.hid hbx
  obtain ⟨⟨q0, q1, q2⟩, hzl, hza⟩ := hbx w1 (F8.Stay.refl gm B w1)
  have HNO := Lib.hid (show so.length ≤ 90000 from h.out)
  have HNP := Lib.hid (show sp.length ≤ 90000 from h.opn)
  have HNM := Lib.hid (show sm ≤ 90000 from h.made)
  have HH1 := Lib.hid (show H ≤ w1.heap.size from hm1.le)
  have HB1 := Lib.hid (show B ≤ w1.heap.size from hm1.size)
  have HGM := Lib.hid hm1.lt
  have HLL := Lib.hid (show xl.length ≤ 100000 from h.ll)
  have CF := Lib.hid (rfunc1_any (.slice A1 xl.length c1) xl w1 hzl.rd (Nat.le_trans HLL.out (by decide)))
  have HM1 := Lib.hid hm1
  clear h hm1 hs1 hal hbx hzl hza
  go_enter Tryd.func38, Tryd.ntmps38
  go_wp2_with (go_at_call 70; refine CF.out.mono ?_)
  rintro e w2 ⟨vat, rfl, hat, hb2⟩
  obtain ⟨AT, cT, rfl⟩ := hat.form
  have HM2 := Lib.hid (HM1.out.kept hb2)
  have HS2 := Lib.hid (F8.Stay.of (gm := gm) hb2 HB1.out HGM.out)
  have HT2 := Lib.hid (F8.Stay.refl gm B w2)
  have HAT := Lib.hid (fun W (hs : F8.Stay gm B w2 W) => OwnS.stay hat hs)
  obtain ⟨⟨q20, q21, q22⟩, _⟩ := HBX.out _ HS2.out
  clear hat hb2 q0 q1 q2
  cases sp with
  | nil =>
    have HR := Lib.hid (show F8.doc .againK ⟨so, [], sm⟩ ⟨xl, [97, 103, 97, 105, 110], xa⟩ = none from rfl)
    go_wp2_with (first
      | (go_at_call 73; refine ((rtop_any _ HM2.out (by have := HNO.out; have := HNP.out; have := HNM.out; (try simp only [List.length_append, List.length_cons, List.length_nil]); omega)).mono (R' := fun e w' => e = .returned (.string ⟨([] : List UInt8).toArray⟩) ∧ Below w2.heap.size w2 w') (fun _ _ hh => hh)).mono ?_; rintro e w3 ⟨rfl, hb3⟩; have hm3 := HM2.out.kept hb3; have hs3 := F8.Stay.of (gm := gm) hb3 HM2.out.size HM2.out.lt; clear hb3; have HM3 := Lib.hid hm3; have HS3 := Lib.hid (HS2.out.trans hs3); have HT3 := Lib.hid (HT2.out.trans hs3); clear hm3 hs3; obtain ⟨⟨q30, q31, q32⟩, _⟩ := HBX.out _ HS3.out))
    go_ret
    rw [HR.out]
    exact ⟨rfl, HST.out.below.trans HS3.out.below⟩
  | cons q r =>
    obtain ⟨wt, kt⟩ := q
    have HRL := Lib.hid (show r.length ≤ 90000 from by have := HNP.out; simp only [List.length_cons] at this; omega)
    by_cases hwt0 : wt = [98, 101, 103, 105, 110]
    · subst hwt0
      go_wp2_with (first
        | (go_at_call 73; refine ((rtop_any _ HM2.out (by have := HNO.out; have := HRL.out; have := HNM.out; (try simp only [List.length_append, List.length_cons, List.length_nil]); omega)).mono (R' := fun e w' => e = .returned (.string ⟨[98, 101, 103, 105, 110].toArray⟩) ∧ Below w2.heap.size w2 w') (fun _ _ hh => hh)).mono ?_; rintro e w3 ⟨rfl, hb3⟩; have hm3 := HM2.out.kept hb3; have hs3 := F8.Stay.of (gm := gm) hb3 HM2.out.size HM2.out.lt; clear hb3; have HM3 := Lib.hid hm3; have HS3 := Lib.hid (HS2.out.trans hs3); have HT3 := Lib.hid (HT2.out.trans hs3); clear hm3 hs3; obtain ⟨⟨q30, q31, q32⟩, _⟩ := HBX.out _ HS3.out)
        | (go_at_call 74; with_reducible refine (rpop_any _ HM3.out (by have := HNO.out; have := HRL.out; have := HNM.out; (try simp only [List.length_append, List.length_cons, List.length_nil]); omega)).mono ?_; rintro e w4 ⟨rfl, hm4, hs4⟩; have HM4 := Lib.hid hm4; have HS4 := Lib.hid (HS3.out.trans hs4); have HT4 := Lib.hid (HT3.out.trans hs4); clear hm4 hs4; obtain ⟨⟨q40, q41, q42⟩, _⟩ := HBX.out _ HS4.out; obtain ⟨w5, hw5⟩ : ∃ w5, w4.alloc (.cells #[.string ⟨kt.toArray⟩] 9) = w5 := ⟨_, rfl⟩; obtain ⟨hm5, hs5, hr5, hc5⟩ := F8.words_newR HM4.out kt hw5; have HR5 := Lib.hid hr5; have HC5 := Lib.hid hc5; clear hr5 hc5; have HM5 := Lib.hid hm5; have HS5 := Lib.hid (HS4.out.trans hs5); have HT5 := Lib.hid (HT4.out.trans hs5); clear hm5 hs5; obtain ⟨⟨q50, q51, q52⟩, _⟩ := HBX.out _ HS5.out)
        | (go_at_call 75; with_reducible refine (rputw_any _ HM5.out (.slice AT xl.length cT) (.slice (some ⟨w4.heap.size, 0, none⟩) 1 1) xl [106] [kt] (F8.Z.of_own (OwnS.rebase (HAT.out _ HT5.out) HB1.out)) (F8.Z.of_own (OwnS.rebase HR5.out HM4.out.size)) (by have := HNO.out; have := HRL.out; have := HNM.out; (try simp only [List.length_append, List.length_cons, List.length_nil]); omega)).mono ?_; rintro e w6 ⟨rfl, hm6, hs6⟩; have HM6 := Lib.hid hm6; have HS6 := Lib.hid (HS5.out.trans hs6); have HT6 := Lib.hid (HT5.out.trans hs6); clear hm6 hs6; obtain ⟨⟨q60, q61, q62⟩, _⟩ := HBX.out _ HS6.out))
      go_ret
      exact ⟨rfl, HM6.out.later HM6.out.le (Nat.le_refl _), HST.out.trans HS6.out⟩
    have HR := Lib.hid (show F8.doc .againK ⟨so, (wt, kt) :: r, sm⟩ ⟨xl, [97, 103, 97, 105, 110], xa⟩ = none from by
      simp only [F8.doc, F8.own]
      rw [if_neg (show ¬ wt = F8.wBegin from hwt0)])
    have e0 := F8.word_ne hwt0
    clear hwt0
    go_wp2_with (first
      | (go_at_call 73; refine ((rtop_any _ HM2.out (by have := HNO.out; have := HRL.out; have := HNM.out; (try simp only [List.length_append, List.length_cons, List.length_nil]); omega)).mono (R' := fun e w' => e = .returned (.string ⟨wt.toArray⟩) ∧ Below w2.heap.size w2 w') (fun _ _ hh => hh)).mono ?_; rintro e w3 ⟨rfl, hb3⟩; have hm3 := HM2.out.kept hb3; have hs3 := F8.Stay.of (gm := gm) hb3 HM2.out.size HM2.out.lt; clear hb3; have HM3 := Lib.hid hm3; have HS3 := Lib.hid (HS2.out.trans hs3); have HT3 := Lib.hid (HT2.out.trans hs3); clear hm3 hs3; obtain ⟨⟨q30, q31, q32⟩, _⟩ := HBX.out _ HS3.out))
    go_ret
    rw [HR.out]
    exact ⟨rfl, HST.out.below.trans HS3.out.below⟩
set_option maxRecDepth 100000 in
set_option maxHeartbeats 4000000 in
theorem rline_repeat {B gm H : Nat} {S : F8.St} (w : World) (vl va : Value) (x : L6.Line) (h : F8.RLineIn B gm H S w vl va x) (hx : x.word = [114, 101, 112, 101, 97, 116]) (hrep : ∀ n r, S.opn = (F8.wWhile, n) :: r → r ≠ []) :
    Calls Tryd.prog 38 #[.pointer (some ⟨gm, 0, none⟩), .agg #[vl, .string ⟨x.word.toArray⟩, va]] w (F8.RLinePost B gm w (F8.doc .repeatK S x)) := by
  obtain ⟨so, sp, sm⟩ := S
  obtain ⟨xl, xw, xa⟩ := x
  dsimp only at hx
  subst hx
  obtain ⟨A1, c1, rfl⟩ := h.l.form
  obtain ⟨A2, c2, rfl⟩ := h.a.form
  obtain ⟨w1, hw1⟩ : ∃ w1, w.alloc (.cells #[.slice A1 xl.length c1, .string ⟨#[114, 101, 112, 101, 97, 116]⟩, .slice A2 xa.length c2] 41) = w1 := ⟨_, rfl⟩
  obtain ⟨hm1, hs1, hal, hbx⟩ := h.boxed hw1
  have HST := Lib.hid hs1
  have HBX := Lib.hid hbx
  obtain ⟨⟨q0, q1, q2⟩, hzl, hza⟩ := hbx w1 (F8.Stay.refl gm B w1)
  have HNO := Lib.hid (show so.length ≤ 90000 from h.out)
  have HNP := Lib.hid (show sp.length ≤ 90000 from h.opn)
  have HNM := Lib.hid (show sm ≤ 90000 from h.made)
  have HH1 := Lib.hid (show H ≤ w1.heap.size from hm1.le)
  have HB1 := Lib.hid (show B ≤ w1.heap.size from hm1.size)
  have HGM := Lib.hid hm1.lt
  have HLL := Lib.hid (show xl.length ≤ 100000 from h.ll)
  have CF := Lib.hid (rfunc1_any (.slice A1 xl.length c1) xl w1 hzl.rd (Nat.le_trans HLL.out (by decide)))
  have HM1 := Lib.hid hm1
  clear h hm1 hs1 hal hbx hzl hza
  go_enter Tryd.func38, Tryd.ntmps38
  go_wp2_with (go_at_call 70; refine CF.out.mono ?_)
  rintro e w2 ⟨vat, rfl, hat, hb2⟩
  obtain ⟨AT, cT, rfl⟩ := hat.form
  have HM2 := Lib.hid (HM1.out.kept hb2)
  have HS2 := Lib.hid (F8.Stay.of (gm := gm) hb2 HB1.out HGM.out)
  have HT2 := Lib.hid (F8.Stay.refl gm B w2)
  have HAT := Lib.hid (fun W (hs : F8.Stay gm B w2 W) => OwnS.stay hat hs)
  obtain ⟨⟨q20, q21, q22⟩, _⟩ := HBX.out _ HS2.out
  clear hat hb2 q0 q1 q2
  cases sp with
  | nil =>
    have HR := Lib.hid (show F8.doc .repeatK ⟨so, [], sm⟩ ⟨xl, [114, 101, 112, 101, 97, 116], xa⟩ = none from rfl)
    go_wp2_with (first
      | (go_at_call 73; refine ((rtop_any _ HM2.out (by have := HNO.out; have := HNP.out; have := HNM.out; (try simp only [List.length_append, List.length_cons, List.length_nil]); omega)).mono (R' := fun e w' => e = .returned (.string ⟨([] : List UInt8).toArray⟩) ∧ Below w2.heap.size w2 w') (fun _ _ hh => hh)).mono ?_; rintro e w3 ⟨rfl, hb3⟩; have hm3 := HM2.out.kept hb3; have hs3 := F8.Stay.of (gm := gm) hb3 HM2.out.size HM2.out.lt; clear hb3; have HM3 := Lib.hid hm3; have HS3 := Lib.hid (HS2.out.trans hs3); have HT3 := Lib.hid (HT2.out.trans hs3); clear hm3 hs3; obtain ⟨⟨q30, q31, q32⟩, _⟩ := HBX.out _ HS3.out))
    go_ret
    rw [HR.out]
    exact ⟨rfl, HST.out.below.trans HS3.out.below⟩
  | cons q r =>
    obtain ⟨wt, kt⟩ := q
    have HRL := Lib.hid (show r.length ≤ 90000 from by have := HNP.out; simp only [List.length_cons] at this; omega)
    by_cases hwt0 : wt = [119, 104, 105, 108, 101]
    · subst hwt0
      cases r with
      | nil => exact absurd rfl (hrep kt [] rfl)
      | cons q2 r2 =>
        obtain ⟨w3t, k2⟩ := q2
        go_wp2_with (first
          | (go_at_call 73; refine ((rtop_any _ HM2.out (by have := HNO.out; have := HRL.out; have := HNM.out; (try simp only [List.length_append, List.length_cons, List.length_nil] at *); omega)).mono (R' := fun e w' => e = .returned (.string ⟨[119, 104, 105, 108, 101].toArray⟩) ∧ Below w2.heap.size w2 w') (fun _ _ hh => hh)).mono ?_; rintro e w3 ⟨rfl, hb3⟩; have hm3 := HM2.out.kept hb3; have hs3 := F8.Stay.of (gm := gm) hb3 HM2.out.size HM2.out.lt; clear hb3; have HM3 := Lib.hid hm3; have HS3 := Lib.hid (HS2.out.trans hs3); have HT3 := Lib.hid (HT2.out.trans hs3); clear hm3 hs3; obtain ⟨⟨q30, q31, q32⟩, _⟩ := HBX.out _ HS3.out)
          | (go_at_call 74; with_reducible refine (rpop_any _ HM3.out (by have := HNO.out; have := HRL.out; have := HNM.out; (try simp only [List.length_append, List.length_cons, List.length_nil] at *); omega)).mono ?_; rintro e w4 ⟨rfl, hm4, hs4⟩; have HM4 := Lib.hid hm4; have HS4 := Lib.hid (HS3.out.trans hs4); have HT4 := Lib.hid (HT3.out.trans hs4); clear hm4 hs4; obtain ⟨⟨q40, q41, q42⟩, _⟩ := HBX.out _ HS4.out)
          | (go_at_call 74; with_reducible refine (rpop_any _ HM4.out (by have := HNO.out; have := HRL.out; have := HNM.out; (try simp only [List.length_append, List.length_cons, List.length_nil] at *); omega)).mono ?_; rintro e w5 ⟨rfl, hm5, hs5⟩; have HM5 := Lib.hid hm5; have HS5 := Lib.hid (HS4.out.trans hs5); have HT5 := Lib.hid (HT4.out.trans hs5); clear hm5 hs5; obtain ⟨⟨q50, q51, q52⟩, _⟩ := HBX.out _ HS5.out; obtain ⟨w6, hw6⟩ : ∃ w6, w5.alloc (.cells #[.string ⟨k2.toArray⟩] 9) = w6 := ⟨_, rfl⟩; obtain ⟨hm6, hs6, hr6, hc6⟩ := F8.words_newR HM5.out k2 hw6; have HR6 := Lib.hid hr6; have HC6 := Lib.hid hc6; clear hr6 hc6; have HM6 := Lib.hid hm6; have HS6 := Lib.hid (HS5.out.trans hs6); have HT6 := Lib.hid (HT5.out.trans hs6); clear hm6 hs6; obtain ⟨⟨q60, q61, q62⟩, _⟩ := HBX.out _ HS6.out)
          | (go_at_call 75; with_reducible refine (rputw_any _ HM6.out (.slice AT xl.length cT) (.slice (some ⟨w5.heap.size, 0, none⟩) 1 1) xl [106] [k2] (F8.Z.of_own (OwnS.rebase (HAT.out _ HT6.out) HB1.out)) (F8.Z.of_own (OwnS.rebase HR6.out HM5.out.size)) (by have := HNO.out; have := HRL.out; have := HNM.out; (try simp only [List.length_append, List.length_cons, List.length_nil] at *); omega)).mono ?_; rintro e w7 ⟨rfl, hm7, hs7⟩; have HM7 := Lib.hid hm7; have HS7 := Lib.hid (HS6.out.trans hs7); have HT7 := Lib.hid (HT6.out.trans hs7); clear hm7 hs7; obtain ⟨⟨q70, q71, q72⟩, _⟩ := HBX.out _ HS7.out; obtain ⟨w8, hw8⟩ : ∃ w8, w7.alloc (.cells #[.string ⟨kt.toArray⟩] 9) = w8 := ⟨_, rfl⟩; obtain ⟨hm8, hs8, hr8, hc8⟩ := F8.words_newR HM7.out kt hw8; have HR8 := Lib.hid hr8; have HC8 := Lib.hid hc8; clear hr8 hc8; have HM8 := Lib.hid hm8; have HS8 := Lib.hid (HS7.out.trans hs8); have HT8 := Lib.hid (HT7.out.trans hs8); clear hm8 hs8; obtain ⟨⟨q80, q81, q82⟩, _⟩ := HBX.out _ HS8.out)
          | (go_at_call 75; with_reducible refine (rputw_any _ HM8.out (.slice (some ⟨w7.heap.size, 0, none⟩) 1 1) (.slice none 0 0) [kt] [] [] (F8.Z.of_own (OwnS.rebase HR8.out HM7.out.size)) (F8.Z.of_own (OwnS.nil _ _)) (by have := HNO.out; have := HRL.out; have := HNM.out; (try simp only [List.length_append, List.length_cons, List.length_nil] at *); omega)).mono ?_; rintro e w9 ⟨rfl, hm9, hs9⟩; have HM9 := Lib.hid hm9; have HS9 := Lib.hid (HS8.out.trans hs9); have HT9 := Lib.hid (HT8.out.trans hs9); clear hm9 hs9; obtain ⟨⟨q90, q91, q92⟩, _⟩ := HBX.out _ HS9.out))
        go_ret
        exact ⟨rfl, HM9.out.later HM9.out.le (Nat.le_refl _), HST.out.trans HS9.out⟩
    have HR := Lib.hid (show F8.doc .repeatK ⟨so, (wt, kt) :: r, sm⟩ ⟨xl, [114, 101, 112, 101, 97, 116], xa⟩ = none from by
      simp only [F8.doc, F8.own]
      rw [if_neg (show ¬ wt = F8.wWhile from hwt0)])
    have e0 := F8.word_ne hwt0
    clear hwt0
    go_wp2_with (first
      | (go_at_call 73; refine ((rtop_any _ HM2.out (by have := HNO.out; have := HRL.out; have := HNM.out; (try simp only [List.length_append, List.length_cons, List.length_nil]); omega)).mono (R' := fun e w' => e = .returned (.string ⟨wt.toArray⟩) ∧ Below w2.heap.size w2 w') (fun _ _ hh => hh)).mono ?_; rintro e w3 ⟨rfl, hb3⟩; have hm3 := HM2.out.kept hb3; have hs3 := F8.Stay.of (gm := gm) hb3 HM2.out.size HM2.out.lt; clear hb3; have HM3 := Lib.hid hm3; have HS3 := Lib.hid (HS2.out.trans hs3); have HT3 := Lib.hid (HT2.out.trans hs3); clear hm3 hs3; obtain ⟨⟨q30, q31, q32⟩, _⟩ := HBX.out _ HS3.out))
    go_ret
    rw [HR.out]
    exact ⟨rfl, HST.out.below.trans HS3.out.below⟩
end Go.Proofs.YtfafdkbnmfpbmaaDoor
