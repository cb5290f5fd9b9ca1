/- Flow, the program's side: line. -/
import Derived.Test.YtfafdkbnmfpbmaaDoorF8Own7
import Derived.Test.YtfafdkbnmfpbmaaDoorF8Own4
namespace Go.Proofs.YtfafdkbnmfpbmaaDoor
open Go.RowKit Kit
set_option linter.unusedVariables false
set_option linter.unusedSimpArgs false

/-- What line leaves. -/
def F8.LinePost (B gm : Nat) (w : World) (r : Option F8.St) (e : Ending) (w' : World) : Prop :=
  match r with
  | none => e = .returned (.bool false) ∧ Below B w w'
  | some S' => e = .returned (.bool true) ∧ F8.MkO B w' gm w'.heap.size S' ∧ F8.Stay gm B w w'
/-- What line is asked with. -/
structure F8.LineIn (B gm H : Nat) (S : F8.St) (w : World) (vl va : Value) (x : L6.Line) : Prop where
  maker : F8.MkO B w gm H S
  tab : F8.TabB B w
  l : OwnZ B w vl x.labels
  a : OwnZ B w va x.args
  new : ∀ k, F8.blk vl = some k → H ≤ k
  ll : x.labels.length ≤ 100000
  out : S.out.length ≤ 90000
  opn : S.opn.length ≤ 90000
  made : S.made ≤ 90000
/-- What the walk has in hand behind the box. -/
theorem F8.LineIn.boxed {B gm H : Nat} {S : F8.St} {w w1 : World} {vl va : Value} {x : L6.Line} {s : ByteArray} (h : F8.LineIn B gm H S w vl va x) (h1 : w.alloc (.cells #[vl, .string s, va] 42) = w1) :
    F8.MkO B w1 gm H S ∧ F8.Stay gm B w w1 ∧ (∀ W, F8.Stay gm B w1 W → (W.cell? ⟨w.heap.size, 0, none⟩ = some vl ∧ W.cell? ⟨w.heap.size, 1, none⟩ = some (.string s) ∧ W.cell? ⟨w.heap.size, 2, none⟩ = some va) ∧ OwnZ B W vl x.labels ∧ RdS W va x.args ∧ F8.TabB B W) := by
  have hal : Below w.heap.size w w1 := by rw [← h1]; exact (Below.refl _ _).alloc (Nat.le_refl _) _
  have hbk : Bk w1 w.heap.size 42 #[vl, .string s, va] := by rw [← h1]; exact Bk.fresh w _ _
  have hst : F8.Stay gm B w w1 := F8.Stay.of hal h.maker.size h.maker.lt
  have hf := h.maker.free hal (Nat.le_refl w.heap.size)
  refine ⟨h.maker.kept hal, hst, fun W hs => ?_⟩
  have hk := (hs.bk hbk hf).1
  exact ⟨⟨hk.cell 0, hk.cell 1, hk.cell 2⟩, (h.l.stay hst).stay hs, ((h.a.stay hst).stay hs).rd, (h.tab.below hst.below).below hs.below⟩
/-- Words that were just written out. -/
theorem F8.words_new {B gm H : Nat} {S : F8.St} {w : World} (h : F8.MkO B w gm H S) (l : List (List UInt8)) (hl : l.length ≤ 1000) (cs : Array Value) (hc : cs = (L6.sv l).toArray) (n : Nat) (hn : n = l.length) :
    F8.MkO B (w.alloc (.cells cs 9)) gm H S ∧ F8.Stay gm B w (w.alloc (.cells cs 9)) ∧ RdS (w.alloc (.cells cs 9)) (.slice (some ⟨w.heap.size, 0, none⟩) n n) l := by
  subst hc hn
  have hal := (Below.refl w.heap.size w).alloc (Nat.le_refl _) (.cells (L6.sv l).toArray 9)
  exact ⟨h.kept hal, F8.Stay.of hal h.size h.lt, (F8.own_of_bk (B := w.heap.size) (Bk.fresh w _ _) (Nat.le_refl _) (by unfold maxLen; omega)).rd⟩
set_option maxRecDepth 100000 in
set_option maxHeartbeats 4000000 in
theorem fline_if {B gm H : Nat} {S : F8.St} (w : World) (vl va : Value) (x : L6.Line) (h : F8.LineIn B gm H S w vl va x) (hx : x.word = [105, 102]) (h3 : x.args.length = 3) :
    Calls Tryd.prog 36 #[.pointer (some ⟨gm, 0, none⟩), .agg #[vl, .string ⟨x.word.toArray⟩, va]] w (F8.LinePost B gm w (F8.own .ifK S x)) := by
  obtain ⟨so, sp, sm⟩ := S
  obtain ⟨xl, xw, xa⟩ := x
  dsimp only at hx
  subst hx
  have HI := Lib.hid h
  obtain ⟨A1, c1, rfl⟩ := h.l.form
  obtain ⟨A2, c2, rfl⟩ := h.a.form
  obtain ⟨w1, hw1⟩ : ∃ w1, w.alloc (.cells #[.slice A1 xl.length c1, .string ⟨#[105, 102]⟩, .slice A2 xa.length c2] 42) = w1 := ⟨_, rfl⟩
  obtain ⟨hm1, hs1, hbx⟩ := h.boxed hw1
  have HM0 := Lib.hid hm1
  have HST := Lib.hid hs1
  have HS0 := Lib.hid (F8.Stay.refl gm B w1)
  have HBX := Lib.hid hbx
  obtain ⟨⟨q0, q1, q2⟩, _⟩ := hbx w1 (F8.Stay.refl gm B w1)
  have hno : so.length ≤ 90000 := h.out
  have hnp : sp.length ≤ 90000 := h.opn
  have hnm : sm ≤ 90000 := h.made
  have HNO := Lib.hid hno
  have HNP := Lib.hid hnp
  have HNM := Lib.hid hnm
  have HNW := Lib.hid h.new
  have HLL := Lib.hid (show xl.length ≤ 100000 from h.ll)
  clear hm1 hs1 hbx hno hnp hnm
  have H3 := Lib.hid (show xa.length = 3 from h3)
  clear h h3
  go_enter Tryd.func36, Tryd.ntmps36
  go_wp2_with (first
    | (go_at_call 65; with_reducible refine (flabel_any _ HM0.out (by have := HNO.out; have := HNP.out; have := HNM.out; simp only [List.length_append, List.length_cons, List.length_nil]; omega) (.inr (HBX.out _ HS0.out).2.2.2)).mono ?_; rintro e w2 ⟨rfl, hm1, hs1⟩; have HM1 := Lib.hid hm1; have HS1 := Lib.hid (HS0.out.trans hs1); clear hm1 hs1; obtain ⟨⟨q10, q11, q12⟩, _⟩ := HBX.out _ HS1.out)
    | (go_at_call 64; with_reducible refine (fbranch_any _ HM1.out _ _ _ ⟨xl, [], xa⟩ (F8.lab sm) (HBX.out _ HS1.out).2.1 HNW.out (HBX.out _ HS1.out).2.2.1 H3.out (by have := HNO.out; have := HNP.out; have := HNM.out; simp only [List.length_append, List.length_cons, List.length_nil]; omega)).mono ?_; rintro e w3 ⟨rfl, hm2, hs2⟩; have HM2 := Lib.hid hm2; have HS2 := Lib.hid (HS1.out.trans hs2); clear hm2 hs2; obtain ⟨⟨q20, q21, q22⟩, _⟩ := HBX.out _ HS2.out)
    | (go_at_call 66; with_reducible refine (fwait_any _ HM2.out [105, 102] (F8.lab sm) (by have := HNO.out; have := HNP.out; have := HNM.out; simp only [List.length_append, List.length_cons, List.length_nil]; omega)).mono ?_; rintro e w4 ⟨rfl, hm3, hs3⟩; have HM3 := Lib.hid hm3; have HS3 := Lib.hid (HS2.out.trans hs3); clear hm3 hs3; obtain ⟨⟨q30, q31, q32⟩, _⟩ := HBX.out _ HS3.out))
  go_ret
  exact ⟨rfl, HM3.out.later HM3.out.le (Nat.le_refl _), HST.out.trans HS3.out⟩
set_option maxRecDepth 100000 in
set_option maxHeartbeats 4000000 in
theorem fline_begin {B gm H : Nat} {S : F8.St} (w : World) (vl va : Value) (x : L6.Line) (h : F8.LineIn B gm H S w vl va x) (hx : x.word = [98, 101, 103, 105, 110]) :
    Calls Tryd.prog 36 #[.pointer (some ⟨gm, 0, none⟩), .agg #[vl, .string ⟨x.word.toArray⟩, va]] w (F8.LinePost B gm w (F8.own .beginK S x)) := by
  obtain ⟨so, sp, sm⟩ := S
  obtain ⟨xl, xw, xa⟩ := x
  dsimp only at hx
  subst hx
  have HI := Lib.hid h
  obtain ⟨A1, c1, rfl⟩ := h.l.form
  obtain ⟨A2, c2, rfl⟩ := h.a.form
  obtain ⟨w1, hw1⟩ : ∃ w1, w.alloc (.cells #[.slice A1 xl.length c1, .string ⟨#[98, 101, 103, 105, 110]⟩, .slice A2 xa.length c2] 42) = w1 := ⟨_, rfl⟩
  obtain ⟨hm1, hs1, hbx⟩ := h.boxed hw1
  have HM0 := Lib.hid hm1
  have HST := Lib.hid hs1
  have HS0 := Lib.hid (F8.Stay.refl gm B w1)
  have HBX := Lib.hid hbx
  obtain ⟨⟨q0, q1, q2⟩, _⟩ := hbx w1 (F8.Stay.refl gm B w1)
  have hno : so.length ≤ 90000 := h.out
  have hnp : sp.length ≤ 90000 := h.opn
  have hnm : sm ≤ 90000 := h.made
  have HNO := Lib.hid hno
  have HNP := Lib.hid hnp
  have HNM := Lib.hid hnm
  have HNW := Lib.hid h.new
  have HLL := Lib.hid (show xl.length ≤ 100000 from h.ll)
  clear hm1 hs1 hbx hno hnp hnm
  clear h
  go_enter Tryd.func36, Tryd.ntmps36
  go_wp2_with (first
    | (go_at_call 65; with_reducible refine (flabel_any _ HM0.out (by have := HNO.out; have := HNP.out; have := HNM.out; simp only [List.length_append, List.length_cons, List.length_nil]; omega) (.inr (HBX.out _ HS0.out).2.2.2)).mono ?_; rintro e w2 ⟨rfl, hm1, hs1⟩; have HM1 := Lib.hid hm1; have HS1 := Lib.hid (HS0.out.trans hs1); clear hm1 hs1; obtain ⟨⟨q10, q11, q12⟩, _⟩ := HBX.out _ HS1.out)
    | (go_at_call 69; with_reducible refine (fhere_any _ HM1.out _ _ _ xl (F8.lab sm) (HBX.out _ HS1.out).2.1.rd HLL.out ⟨_, _, _, rfl⟩ (by have := HNO.out; have := HNP.out; have := HNM.out; simp only [List.length_append, List.length_cons, List.length_nil]; omega)).mono ?_; rintro e w3 ⟨rfl, hm2, hs2⟩; have HM2 := Lib.hid hm2; have HS2 := Lib.hid (HS1.out.trans hs2); clear hm2 hs2; obtain ⟨⟨q20, q21, q22⟩, _⟩ := HBX.out _ HS2.out)
    | (go_at_call 66; with_reducible refine (fwait_any _ HM2.out [98, 101, 103, 105, 110] (F8.lab sm) (by have := HNO.out; have := HNP.out; have := HNM.out; simp only [List.length_append, List.length_cons, List.length_nil]; omega)).mono ?_; rintro e w4 ⟨rfl, hm3, hs3⟩; have HM3 := Lib.hid hm3; have HS3 := Lib.hid (HS2.out.trans hs3); clear hm3 hs3; obtain ⟨⟨q30, q31, q32⟩, _⟩ := HBX.out _ HS3.out))
  go_ret
  exact ⟨rfl, HM3.out.later HM3.out.le (Nat.le_refl _), HST.out.trans HS3.out⟩
set_option maxRecDepth 100000 in
set_option maxHeartbeats 4000000 in
theorem fline_else {B gm H : Nat} {S : F8.St} (w : World) (vl va : Value) (x : L6.Line) (h : F8.LineIn B gm H S w vl va x) (hx : x.word = [101, 108, 115, 101]) :
    Calls Tryd.prog 36 #[.pointer (some ⟨gm, 0, none⟩), .agg #[vl, .string ⟨x.word.toArray⟩, va]] w (F8.LinePost B gm w (F8.own .elseK S x)) := by
  obtain ⟨so, sp, sm⟩ := S
  obtain ⟨xl, xw, xa⟩ := x
  dsimp only at hx
  subst hx
  have HI := Lib.hid h
  obtain ⟨A1, c1, rfl⟩ := h.l.form
  obtain ⟨A2, c2, rfl⟩ := h.a.form
  obtain ⟨w1, hw1⟩ : ∃ w1, w.alloc (.cells #[.slice A1 xl.length c1, .string ⟨#[101, 108, 115, 101]⟩, .slice A2 xa.length c2] 42) = w1 := ⟨_, rfl⟩
  obtain ⟨hm1, hs1, hbx⟩ := h.boxed hw1
  have HM0 := Lib.hid hm1
  have HST := Lib.hid hs1
  have HS0 := Lib.hid (F8.Stay.refl gm B w1)
  have HBX := Lib.hid hbx
  obtain ⟨⟨q0, q1, q2⟩, _⟩ := hbx w1 (F8.Stay.refl gm B w1)
  have hno : so.length ≤ 90000 := h.out
  have hnp : sp.length ≤ 90000 := h.opn
  have hnm : sm ≤ 90000 := h.made
  have HNO := Lib.hid hno
  have HNP := Lib.hid hnp
  have HNM := Lib.hid hnm
  have HNW := Lib.hid h.new
  have HLL := Lib.hid (show xl.length ≤ 100000 from h.ll)
  clear hm1 hs1 hbx hno hnp hnm
  clear h
  obtain ⟨w2, hw2⟩ : ∃ w2, w1.alloc (.cells #[.string ⟨#[105, 102]⟩] 9) = w2 := ⟨_, rfl⟩
  obtain ⟨hm1, hs1, hr1⟩ := F8.words_new HM0.out [F8.wIf] (by decide) #[.string ⟨#[105, 102]⟩] rfl 1 rfl
  rw [hw2] at hm1 hs1 hr1
  have HM1 := Lib.hid hm1
  have HS1 := Lib.hid hs1
  have HR1 := Lib.hid hr1
  obtain ⟨⟨q10, q11, q12⟩, _⟩ := HBX.out _ hs1
  clear hm1 hs1 hr1
  by_cases hop : ∃ w k r, sp = (w, k) :: r ∧ (w = F8.wIf)
  · obtain ⟨wt, kt, r, rfl, hwt⟩ := hop
    have HMEM := Lib.hid (show wt ∈ [F8.wIf] from by simp only [List.mem_cons, List.not_mem_nil, or_false]; exact hwt)
    have HRL := Lib.hid (show r.length ≤ 90000 from by have := HNP.out; simp at this; omega)
    have HOWN := Lib.hid hwt
    clear hwt
    have HR := Lib.hid (show F8.own .elseK ⟨so, (wt, kt) :: r, sm⟩ ⟨xl, [101, 108, 115, 101], xa⟩ = some ⟨so ++ [F8.jmp xl (F8.lab sm)] ++ [F8.at_ [] kt], (F8.wElse, F8.lab sm) :: r, sm + 1⟩ from by simp only [F8.own]; rw [if_pos HOWN.out])
    go_enter Tryd.func36, Tryd.ntmps36
    go_wp2_with (first
      | (go_at_call 67; with_reducible refine (fclose_some _ HM1.out _ [F8.wIf] HR1.out (by decide) (by have := HRL.out; omega) HMEM.out).mono ?_; rintro e w3 ⟨rfl, hm2, hs2⟩; have HM2 := Lib.hid hm2; have HS2 := Lib.hid (HS1.out.trans hs2); clear hm2 hs2; obtain ⟨⟨q20, q21, q22⟩, _⟩ := HBX.out _ HS2.out)
      | (go_at_call 65; with_reducible refine (flabel_any _ HM2.out (by have := HNO.out; have := HRL.out; have := HNM.out; simp only [List.length_append, List.length_cons, List.length_nil]; omega) (.inr (HBX.out _ HS2.out).2.2.2)).mono ?_; rintro e w4 ⟨rfl, hm3, hs3⟩; have HM3 := Lib.hid hm3; have HS3 := Lib.hid (HS2.out.trans hs3); clear hm3 hs3; obtain ⟨⟨q30, q31, q32⟩, _⟩ := HBX.out _ HS3.out)
      | (go_at_call 68; with_reducible refine (fjump_any _ HM3.out _ _ _ xl (F8.lab sm) (HBX.out _ HS3.out).2.1 HNW.out ⟨_, _, _, rfl⟩ (by have := HNO.out; have := HRL.out; have := HNM.out; simp only [List.length_append, List.length_cons, List.length_nil]; omega)).mono ?_; rintro e w5 ⟨rfl, hm4, hs4⟩; have HM4 := Lib.hid hm4; have HS4 := Lib.hid (HS3.out.trans hs4); clear hm4 hs4; obtain ⟨⟨q40, q41, q42⟩, _⟩ := HBX.out _ HS4.out)
      | (go_at_call 69; with_reducible refine (fhere_any _ HM4.out (.slice none 0 0) (.slice none 0 0) ⟨#[]⟩ [] kt (OwnS.nil 0 _).rd (Nat.zero_le _) ⟨_, _, _, rfl⟩ (by have := HNO.out; have := HRL.out; have := HNM.out; simp only [List.length_append, List.length_cons, List.length_nil]; omega)).mono ?_; rintro e w6 ⟨rfl, hm5, hs5⟩; have HM5 := Lib.hid hm5; have HS5 := Lib.hid (HS4.out.trans hs5); clear hm5 hs5; obtain ⟨⟨q50, q51, q52⟩, _⟩ := HBX.out _ HS5.out)
      | (go_at_call 66; with_reducible refine (fwait_any _ HM5.out [101, 108, 115, 101] (F8.lab sm) (by have := HNO.out; have := HRL.out; have := HNM.out; simp only [List.length_append, List.length_cons, List.length_nil]; omega)).mono ?_; rintro e w7 ⟨rfl, hm6, hs6⟩; have HM6 := Lib.hid hm6; have HS6 := Lib.hid (HS5.out.trans hs6); clear hm6 hs6; obtain ⟨⟨q60, q61, q62⟩, _⟩ := HBX.out _ HS6.out))
    go_ret
    rw [HR.out]
    exact ⟨rfl, HM6.out.later HM6.out.le (Nat.le_refl _), HST.out.trans HS6.out⟩
  · have HNONE := Lib.hid (show ∀ x k r, sp = (x, k) :: r → x ∉ [F8.wIf] from fun x k r e hx => hop ⟨x, k, r, e, by simp only [List.mem_cons, List.not_mem_nil, or_false] at hx; exact hx⟩)
    have HR := Lib.hid (show F8.own .elseK ⟨so, sp, sm⟩ ⟨xl, [101, 108, 115, 101], xa⟩ = none from by
      cases sp with
      | nil => rfl
      | cons q r =>
        obtain ⟨a, b⟩ := q
        simp only [F8.own]
        rw [if_neg (fun e => hop ⟨a, b, r, rfl, e⟩)])
    clear hop
    go_enter Tryd.func36, Tryd.ntmps36
    go_wp2_with (first
      | (go_at_call 67; refine (fclose_none _ HM1.out _ [F8.wIf] HR1.out (by decide) (by have := HNO.out; have := HNP.out; have := HNM.out; simp only [List.length_append, List.length_cons, List.length_nil]; omega) HNONE.out).mono ?_; rintro e w' ⟨rfl, rfl⟩))
    go_ret
    rw [HR.out]
    exact ⟨rfl, HST.out.below.trans HS1.out.below⟩
set_option maxRecDepth 100000 in
set_option maxHeartbeats 4000000 in
theorem fline_then {B gm H : Nat} {S : F8.St} (w : World) (vl va : Value) (x : L6.Line) (h : F8.LineIn B gm H S w vl va x) (hx : x.word = [116, 104, 101, 110]) :
    Calls Tryd.prog 36 #[.pointer (some ⟨gm, 0, none⟩), .agg #[vl, .string ⟨x.word.toArray⟩, va]] w (F8.LinePost B gm w (F8.own .thenK S x)) := by
  obtain ⟨so, sp, sm⟩ := S
  obtain ⟨xl, xw, xa⟩ := x
  dsimp only at hx
  subst hx
  have HI := Lib.hid h
  obtain ⟨A1, c1, rfl⟩ := h.l.form
  obtain ⟨A2, c2, rfl⟩ := h.a.form
  obtain ⟨w1, hw1⟩ : ∃ w1, w.alloc (.cells #[.slice A1 xl.length c1, .string ⟨#[116, 104, 101, 110]⟩, .slice A2 xa.length c2] 42) = w1 := ⟨_, rfl⟩
  obtain ⟨hm1, hs1, hbx⟩ := h.boxed hw1
  have HM0 := Lib.hid hm1
  have HST := Lib.hid hs1
  have HS0 := Lib.hid (F8.Stay.refl gm B w1)
  have HBX := Lib.hid hbx
  obtain ⟨⟨q0, q1, q2⟩, _⟩ := hbx w1 (F8.Stay.refl gm B w1)
  have hno : so.length ≤ 90000 := h.out
  have hnp : sp.length ≤ 90000 := h.opn
  have hnm : sm ≤ 90000 := h.made
  have HNO := Lib.hid hno
  have HNP := Lib.hid hnp
  have HNM := Lib.hid hnm
  have HNW := Lib.hid h.new
  have HLL := Lib.hid (show xl.length ≤ 100000 from h.ll)
  clear hm1 hs1 hbx hno hnp hnm
  clear h
  obtain ⟨w2, hw2⟩ : ∃ w2, w1.alloc (.cells #[.string ⟨#[105, 102]⟩, .string ⟨#[101, 108, 115, 101]⟩] 9) = w2 := ⟨_, rfl⟩
  obtain ⟨hm1, hs1, hr1⟩ := F8.words_new HM0.out [F8.wIf, F8.wElse] (by decide) #[.string ⟨#[105, 102]⟩, .string ⟨#[101, 108, 115, 101]⟩] rfl 2 rfl
  rw [hw2] at hm1 hs1 hr1
  have HM1 := Lib.hid hm1
  have HS1 := Lib.hid hs1
  have HR1 := Lib.hid hr1
  obtain ⟨⟨q10, q11, q12⟩, _⟩ := HBX.out _ hs1
  clear hm1 hs1 hr1
  by_cases hop : ∃ w k r, sp = (w, k) :: r ∧ (w = F8.wIf ∨ w = F8.wElse)
  · obtain ⟨wt, kt, r, rfl, hwt⟩ := hop
    have HMEM := Lib.hid (show wt ∈ [F8.wIf, F8.wElse] from by simp only [List.mem_cons, List.not_mem_nil, or_false]; exact hwt)
    have HRL := Lib.hid (show r.length ≤ 90000 from by have := HNP.out; simp at this; omega)
    have HOWN := Lib.hid hwt
    clear hwt
    have HR := Lib.hid (show F8.own .thenK ⟨so, (wt, kt) :: r, sm⟩ ⟨xl, [116, 104, 101, 110], xa⟩ = some ⟨so ++ [F8.at_ xl kt], r, sm⟩ from by simp only [F8.own]; rw [if_pos HOWN.out])
    go_enter Tryd.func36, Tryd.ntmps36
    go_wp2_with (first
      | (go_at_call 67; with_reducible refine (fclose_some _ HM1.out _ [F8.wIf, F8.wElse] HR1.out (by decide) (by have := HRL.out; omega) HMEM.out).mono ?_; rintro e w3 ⟨rfl, hm2, hs2⟩; have HM2 := Lib.hid hm2; have HS2 := Lib.hid (HS1.out.trans hs2); clear hm2 hs2; obtain ⟨⟨q20, q21, q22⟩, _⟩ := HBX.out _ HS2.out)
      | (go_at_call 69; with_reducible refine (fhere_any _ HM2.out _ _ _ xl kt (HBX.out _ HS2.out).2.1.rd HLL.out ⟨_, _, _, rfl⟩ (by have := HNO.out; have := HRL.out; have := HNM.out; simp only [List.length_append, List.length_cons, List.length_nil]; omega)).mono ?_; rintro e w4 ⟨rfl, hm3, hs3⟩; have HM3 := Lib.hid hm3; have HS3 := Lib.hid (HS2.out.trans hs3); clear hm3 hs3; obtain ⟨⟨q30, q31, q32⟩, _⟩ := HBX.out _ HS3.out))
    go_ret
    rw [HR.out]
    exact ⟨rfl, HM3.out.later HM3.out.le (Nat.le_refl _), HST.out.trans HS3.out⟩
  · have HNONE := Lib.hid (show ∀ x k r, sp = (x, k) :: r → x ∉ [F8.wIf, F8.wElse] from fun x k r e hx => hop ⟨x, k, r, e, by simp only [List.mem_cons, List.not_mem_nil, or_false] at hx; exact hx⟩)
    have HR := Lib.hid (show F8.own .thenK ⟨so, sp, sm⟩ ⟨xl, [116, 104, 101, 110], xa⟩ = none from by
      cases sp with
      | nil => rfl
      | cons q r =>
        obtain ⟨a, b⟩ := q
        simp only [F8.own]
        rw [if_neg (fun e => hop ⟨a, b, r, rfl, e⟩)])
    clear hop
    go_enter Tryd.func36, Tryd.ntmps36
    go_wp2_with (first
      | (go_at_call 67; refine (fclose_none _ HM1.out _ [F8.wIf, F8.wElse] HR1.out (by decide) (by have := HNO.out; have := HNP.out; have := HNM.out; simp only [List.length_append, List.length_cons, List.length_nil]; omega) HNONE.out).mono ?_; rintro e w' ⟨rfl, rfl⟩))
    go_ret
    rw [HR.out]
    exact ⟨rfl, HST.out.below.trans HS1.out.below⟩
set_option maxRecDepth 100000 in
set_option maxHeartbeats 4000000 in
theorem fline_while {B gm H : Nat} {S : F8.St} (w : World) (vl va : Value) (x : L6.Line) (h : F8.LineIn B gm H S w vl va x) (hx : x.word = [119, 104, 105, 108, 101]) (h3 : x.args.length = 3) :
    Calls Tryd.prog 36 #[.pointer (some ⟨gm, 0, none⟩), .agg #[vl, .string ⟨x.word.toArray⟩, va]] w (F8.LinePost B gm w (F8.own .whileK S x)) := by
  obtain ⟨so, sp, sm⟩ := S
  obtain ⟨xl, xw, xa⟩ := x
  dsimp only at hx
  subst hx
  have HI := Lib.hid h
  obtain ⟨A1, c1, rfl⟩ := h.l.form
  obtain ⟨A2, c2, rfl⟩ := h.a.form
  obtain ⟨w1, hw1⟩ : ∃ w1, w.alloc (.cells #[.slice A1 xl.length c1, .string ⟨#[119, 104, 105, 108, 101]⟩, .slice A2 xa.length c2] 42) = w1 := ⟨_, rfl⟩
  obtain ⟨hm1, hs1, hbx⟩ := h.boxed hw1
  have HM0 := Lib.hid hm1
  have HST := Lib.hid hs1
  have HS0 := Lib.hid (F8.Stay.refl gm B w1)
  have HBX := Lib.hid hbx
  obtain ⟨⟨q0, q1, q2⟩, _⟩ := hbx w1 (F8.Stay.refl gm B w1)
  have hno : so.length ≤ 90000 := h.out
  have hnp : sp.length ≤ 90000 := h.opn
  have hnm : sm ≤ 90000 := h.made
  have HNO := Lib.hid hno
  have HNP := Lib.hid hnp
  have HNM := Lib.hid hnm
  have HNW := Lib.hid h.new
  have HLL := Lib.hid (show xl.length ≤ 100000 from h.ll)
  clear hm1 hs1 hbx hno hnp hnm
  have H3 := Lib.hid (show xa.length = 3 from h3)
  clear h h3
  obtain ⟨w2, hw2⟩ : ∃ w2, w1.alloc (.cells #[.string ⟨#[98, 101, 103, 105, 110]⟩] 9) = w2 := ⟨_, rfl⟩
  obtain ⟨hm1, hs1, hr1⟩ := F8.words_new HM0.out [F8.wBegin] (by decide) #[.string ⟨#[98, 101, 103, 105, 110]⟩] rfl 1 rfl
  rw [hw2] at hm1 hs1 hr1
  have HM1 := Lib.hid hm1
  have HS1 := Lib.hid hs1
  have HR1 := Lib.hid hr1
  obtain ⟨⟨q10, q11, q12⟩, _⟩ := HBX.out _ hs1
  clear hm1 hs1 hr1
  by_cases hop : ∃ w k r, sp = (w, k) :: r ∧ (w = F8.wBegin)
  · obtain ⟨wt, kt, r, rfl, hwt⟩ := hop
    have HMEM := Lib.hid (show wt ∈ [F8.wBegin] from by simp only [List.mem_cons, List.not_mem_nil, or_false]; exact hwt)
    have HRL := Lib.hid (show r.length ≤ 90000 from by have := HNP.out; simp at this; omega)
    have HOWN := Lib.hid hwt
    clear hwt
    have HR := Lib.hid (show F8.own .whileK ⟨so, (wt, kt) :: r, sm⟩ ⟨xl, [119, 104, 105, 108, 101], xa⟩ = some ⟨so ++ [F8.br ⟨xl, [119, 104, 105, 108, 101], xa⟩ (F8.lab sm)], (F8.wWhile, F8.lab sm) :: (F8.wBegun, kt) :: r, sm + 1⟩ from by simp only [F8.own]; rw [if_pos HOWN.out])
    go_enter Tryd.func36, Tryd.ntmps36
    go_wp2_with (first
      | (go_at_call 67; with_reducible refine (fclose_some _ HM1.out _ [F8.wBegin] HR1.out (by decide) (by have := HRL.out; omega) HMEM.out).mono ?_; rintro e w3 ⟨rfl, hm2, hs2⟩; have HM2 := Lib.hid hm2; have HS2 := Lib.hid (HS1.out.trans hs2); clear hm2 hs2; obtain ⟨⟨q20, q21, q22⟩, _⟩ := HBX.out _ HS2.out)
      | (go_at_call 65; with_reducible refine (flabel_any _ HM2.out (by have := HNO.out; have := HRL.out; have := HNM.out; simp only [List.length_append, List.length_cons, List.length_nil]; omega) (.inr (HBX.out _ HS2.out).2.2.2)).mono ?_; rintro e w4 ⟨rfl, hm3, hs3⟩; have HM3 := Lib.hid hm3; have HS3 := Lib.hid (HS2.out.trans hs3); clear hm3 hs3; obtain ⟨⟨q30, q31, q32⟩, _⟩ := HBX.out _ HS3.out)
      | (go_at_call 64; with_reducible refine (fbranch_any _ HM3.out _ _ _ ⟨xl, [], xa⟩ (F8.lab sm) (HBX.out _ HS3.out).2.1 HNW.out (HBX.out _ HS3.out).2.2.1 H3.out (by have := HNO.out; have := HRL.out; have := HNM.out; simp only [List.length_append, List.length_cons, List.length_nil]; omega)).mono ?_; rintro e w5 ⟨rfl, hm4, hs4⟩; have HM4 := Lib.hid hm4; have HS4 := Lib.hid (HS3.out.trans hs4); clear hm4 hs4; obtain ⟨⟨q40, q41, q42⟩, _⟩ := HBX.out _ HS4.out)
      | (go_at_call 66; with_reducible refine (fwait_any _ HM4.out [98, 101, 103, 117, 110] kt (by have := HNO.out; have := HRL.out; have := HNM.out; simp only [List.length_append, List.length_cons, List.length_nil]; omega)).mono ?_; rintro e w6 ⟨rfl, hm5, hs5⟩; have HM5 := Lib.hid hm5; have HS5 := Lib.hid (HS4.out.trans hs5); clear hm5 hs5; obtain ⟨⟨q50, q51, q52⟩, _⟩ := HBX.out _ HS5.out)
      | (go_at_call 66; with_reducible refine (fwait_any _ HM5.out [119, 104, 105, 108, 101] (F8.lab sm) (by have := HNO.out; have := HRL.out; have := HNM.out; simp only [List.length_append, List.length_cons, List.length_nil]; omega)).mono ?_; rintro e w7 ⟨rfl, hm6, hs6⟩; have HM6 := Lib.hid hm6; have HS6 := Lib.hid (HS5.out.trans hs6); clear hm6 hs6; obtain ⟨⟨q60, q61, q62⟩, _⟩ := HBX.out _ HS6.out))
    go_ret
    rw [HR.out]
    exact ⟨rfl, HM6.out.later HM6.out.le (Nat.le_refl _), HST.out.trans HS6.out⟩
  · have HNONE := Lib.hid (show ∀ x k r, sp = (x, k) :: r → x ∉ [F8.wBegin] from fun x k r e hx => hop ⟨x, k, r, e, by simp only [List.mem_cons, List.not_mem_nil, or_false] at hx; exact hx⟩)
    have HR := Lib.hid (show F8.own .whileK ⟨so, sp, sm⟩ ⟨xl, [119, 104, 105, 108, 101], xa⟩ = none from by
      cases sp with
      | nil => rfl
      | cons q r =>
        obtain ⟨a, b⟩ := q
        simp only [F8.own]
        rw [if_neg (fun e => hop ⟨a, b, r, rfl, e⟩)])
    clear hop
    go_enter Tryd.func36, Tryd.ntmps36
    go_wp2_with (first
      | (go_at_call 67; refine (fclose_none _ HM1.out _ [F8.wBegin] HR1.out (by decide) (by have := HNO.out; have := HNP.out; have := HNM.out; simp only [List.length_append, List.length_cons, List.length_nil]; omega) HNONE.out).mono ?_; rintro e w' ⟨rfl, rfl⟩))
    go_ret
    rw [HR.out]
    exact ⟨rfl, HST.out.below.trans HS1.out.below⟩
set_option maxRecDepth 100000 in
set_option maxHeartbeats 4000000 in
theorem fline_until {B gm H : Nat} {S : F8.St} (w : World) (vl va : Value) (x : L6.Line) (h : F8.LineIn B gm H S w vl va x) (hx : x.word = [117, 110, 116, 105, 108]) (h3 : x.args.length = 3) :
    Calls Tryd.prog 36 #[.pointer (some ⟨gm, 0, none⟩), .agg #[vl, .string ⟨x.word.toArray⟩, va]] w (F8.LinePost B gm w (F8.own .untilK S x)) := by
  obtain ⟨so, sp, sm⟩ := S
  obtain ⟨xl, xw, xa⟩ := x
  dsimp only at hx
  subst hx
  have HI := Lib.hid h
  obtain ⟨A1, c1, rfl⟩ := h.l.form
  obtain ⟨A2, c2, rfl⟩ := h.a.form
  obtain ⟨w1, hw1⟩ : ∃ w1, w.alloc (.cells #[.slice A1 xl.length c1, .string ⟨#[117, 110, 116, 105, 108]⟩, .slice A2 xa.length c2] 42) = w1 := ⟨_, rfl⟩
  obtain ⟨hm1, hs1, hbx⟩ := h.boxed hw1
  have HM0 := Lib.hid hm1
  have HST := Lib.hid hs1
  have HS0 := Lib.hid (F8.Stay.refl gm B w1)
  have HBX := Lib.hid hbx
  obtain ⟨⟨q0, q1, q2⟩, _⟩ := hbx w1 (F8.Stay.refl gm B w1)
  have hno : so.length ≤ 90000 := h.out
  have hnp : sp.length ≤ 90000 := h.opn
  have hnm : sm ≤ 90000 := h.made
  have HNO := Lib.hid hno
  have HNP := Lib.hid hnp
  have HNM := Lib.hid hnm
  have HNW := Lib.hid h.new
  have HLL := Lib.hid (show xl.length ≤ 100000 from h.ll)
  clear hm1 hs1 hbx hno hnp hnm
  have H3 := Lib.hid (show xa.length = 3 from h3)
  clear h h3
  obtain ⟨w2, hw2⟩ : ∃ w2, w1.alloc (.cells #[.string ⟨#[98, 101, 103, 105, 110]⟩] 9) = w2 := ⟨_, rfl⟩
  obtain ⟨hm1, hs1, hr1⟩ := F8.words_new HM0.out [F8.wBegin] (by decide) #[.string ⟨#[98, 101, 103, 105, 110]⟩] rfl 1 rfl
  rw [hw2] at hm1 hs1 hr1
  have HM1 := Lib.hid hm1
  have HS1 := Lib.hid hs1
  have HR1 := Lib.hid hr1
  obtain ⟨⟨q10, q11, q12⟩, _⟩ := HBX.out _ hs1
  clear hm1 hs1 hr1
  by_cases hop : ∃ w k r, sp = (w, k) :: r ∧ (w = F8.wBegin)
  · obtain ⟨wt, kt, r, rfl, hwt⟩ := hop
    have HMEM := Lib.hid (show wt ∈ [F8.wBegin] from by simp only [List.mem_cons, List.not_mem_nil, or_false]; exact hwt)
    have HRL := Lib.hid (show r.length ≤ 90000 from by have := HNP.out; simp at this; omega)
    have HOWN := Lib.hid hwt
    clear hwt
    have HR := Lib.hid (show F8.own .untilK ⟨so, (wt, kt) :: r, sm⟩ ⟨xl, [117, 110, 116, 105, 108], xa⟩ = some ⟨so ++ [F8.br ⟨xl, [117, 110, 116, 105, 108], xa⟩ kt], r, sm⟩ from by simp only [F8.own]; rw [if_pos HOWN.out])
    go_enter Tryd.func36, Tryd.ntmps36
    go_wp2_with (first
      | (go_at_call 67; with_reducible refine (fclose_some _ HM1.out _ [F8.wBegin] HR1.out (by decide) (by have := HRL.out; omega) HMEM.out).mono ?_; rintro e w3 ⟨rfl, hm2, hs2⟩; have HM2 := Lib.hid hm2; have HS2 := Lib.hid (HS1.out.trans hs2); clear hm2 hs2; obtain ⟨⟨q20, q21, q22⟩, _⟩ := HBX.out _ HS2.out)
      | (go_at_call 64; with_reducible refine (fbranch_any _ HM2.out _ _ _ ⟨xl, [], xa⟩ kt (HBX.out _ HS2.out).2.1 HNW.out (HBX.out _ HS2.out).2.2.1 H3.out (by have := HNO.out; have := HRL.out; have := HNM.out; simp only [List.length_append, List.length_cons, List.length_nil]; omega)).mono ?_; rintro e w4 ⟨rfl, hm3, hs3⟩; have HM3 := Lib.hid hm3; have HS3 := Lib.hid (HS2.out.trans hs3); clear hm3 hs3; obtain ⟨⟨q30, q31, q32⟩, _⟩ := HBX.out _ HS3.out))
    go_ret
    rw [HR.out]
    exact ⟨rfl, HM3.out.later HM3.out.le (Nat.le_refl _), HST.out.trans HS3.out⟩
  · have HNONE := Lib.hid (show ∀ x k r, sp = (x, k) :: r → x ∉ [F8.wBegin] from fun x k r e hx => hop ⟨x, k, r, e, by simp only [List.mem_cons, List.not_mem_nil, or_false] at hx; exact hx⟩)
    have HR := Lib.hid (show F8.own .untilK ⟨so, sp, sm⟩ ⟨xl, [117, 110, 116, 105, 108], xa⟩ = none from by
      cases sp with
      | nil => rfl
      | cons q r =>
        obtain ⟨a, b⟩ := q
        simp only [F8.own]
        rw [if_neg (fun e => hop ⟨a, b, r, rfl, e⟩)])
    clear hop
    go_enter Tryd.func36, Tryd.ntmps36
    go_wp2_with (first
      | (go_at_call 67; refine (fclose_none _ HM1.out _ [F8.wBegin] HR1.out (by decide) (by have := HNO.out; have := HNP.out; have := HNM.out; simp only [List.length_append, List.length_cons, List.length_nil]; omega) HNONE.out).mono ?_; rintro e w' ⟨rfl, rfl⟩))
    go_ret
    rw [HR.out]
    exact ⟨rfl, HST.out.below.trans HS1.out.below⟩
set_option maxRecDepth 100000 in
set_option maxHeartbeats 4000000 in
theorem fline_again {B gm H : Nat} {S : F8.St} (w : World) (vl va : Value) (x : L6.Line) (h : F8.LineIn B gm H S w vl va x) (hx : x.word = [97, 103, 97, 105, 110]) :
    Calls Tryd.prog 36 #[.pointer (some ⟨gm, 0, none⟩), .agg #[vl, .string ⟨x.word.toArray⟩, va]] w (F8.LinePost B gm w (F8.own .againK S x)) := by
  obtain ⟨so, sp, sm⟩ := S
  obtain ⟨xl, xw, xa⟩ := x
  dsimp only at hx
  subst hx
  have HI := Lib.hid h
  obtain ⟨A1, c1, rfl⟩ := h.l.form
  obtain ⟨A2, c2, rfl⟩ := h.a.form
  obtain ⟨w1, hw1⟩ : ∃ w1, w.alloc (.cells #[.slice A1 xl.length c1, .string ⟨#[97, 103, 97, 105, 110]⟩, .slice A2 xa.length c2] 42) = w1 := ⟨_, rfl⟩
  obtain ⟨hm1, hs1, hbx⟩ := h.boxed hw1
  have HM0 := Lib.hid hm1
  have HST := Lib.hid hs1
  have HS0 := Lib.hid (F8.Stay.refl gm B w1)
  have HBX := Lib.hid hbx
  obtain ⟨⟨q0, q1, q2⟩, _⟩ := hbx w1 (F8.Stay.refl gm B w1)
  have hno : so.length ≤ 90000 := h.out
  have hnp : sp.length ≤ 90000 := h.opn
  have hnm : sm ≤ 90000 := h.made
  have HNO := Lib.hid hno
  have HNP := Lib.hid hnp
  have HNM := Lib.hid hnm
  have HNW := Lib.hid h.new
  have HLL := Lib.hid (show xl.length ≤ 100000 from h.ll)
  clear hm1 hs1 hbx hno hnp hnm
  clear h
  obtain ⟨w2, hw2⟩ : ∃ w2, w1.alloc (.cells #[.string ⟨#[98, 101, 103, 105, 110]⟩] 9) = w2 := ⟨_, rfl⟩
  obtain ⟨hm1, hs1, hr1⟩ := F8.words_new HM0.out [F8.wBegin] (by decide) #[.string ⟨#[98, 101, 103, 105, 110]⟩] rfl 1 rfl
  rw [hw2] at hm1 hs1 hr1
  have HM1 := Lib.hid hm1
  have HS1 := Lib.hid hs1
  have HR1 := Lib.hid hr1
  obtain ⟨⟨q10, q11, q12⟩, _⟩ := HBX.out _ hs1
  clear hm1 hs1 hr1
  by_cases hop : ∃ w k r, sp = (w, k) :: r ∧ (w = F8.wBegin)
  · obtain ⟨wt, kt, r, rfl, hwt⟩ := hop
    have HMEM := Lib.hid (show wt ∈ [F8.wBegin] from by simp only [List.mem_cons, List.not_mem_nil, or_false]; exact hwt)
    have HRL := Lib.hid (show r.length ≤ 90000 from by have := HNP.out; simp at this; omega)
    have HOWN := Lib.hid hwt
    clear hwt
    have HR := Lib.hid (show F8.own .againK ⟨so, (wt, kt) :: r, sm⟩ ⟨xl, [97, 103, 97, 105, 110], xa⟩ = some ⟨so ++ [F8.jmp xl kt], r, sm⟩ from by simp only [F8.own]; rw [if_pos HOWN.out])
    go_enter Tryd.func36, Tryd.ntmps36
    go_wp2_with (first
      | (go_at_call 67; with_reducible refine (fclose_some _ HM1.out _ [F8.wBegin] HR1.out (by decide) (by have := HRL.out; omega) HMEM.out).mono ?_; rintro e w3 ⟨rfl, hm2, hs2⟩; have HM2 := Lib.hid hm2; have HS2 := Lib.hid (HS1.out.trans hs2); clear hm2 hs2; obtain ⟨⟨q20, q21, q22⟩, _⟩ := HBX.out _ HS2.out)
      | (go_at_call 68; with_reducible refine (fjump_any _ HM2.out _ _ _ xl kt (HBX.out _ HS2.out).2.1 HNW.out ⟨_, _, _, rfl⟩ (by have := HNO.out; have := HRL.out; have := HNM.out; simp only [List.length_append, List.length_cons, List.length_nil]; omega)).mono ?_; rintro e w4 ⟨rfl, hm3, hs3⟩; have HM3 := Lib.hid hm3; have HS3 := Lib.hid (HS2.out.trans hs3); clear hm3 hs3; obtain ⟨⟨q30, q31, q32⟩, _⟩ := HBX.out _ HS3.out))
    go_ret
    rw [HR.out]
    exact ⟨rfl, HM3.out.later HM3.out.le (Nat.le_refl _), HST.out.trans HS3.out⟩
  · have HNONE := Lib.hid (show ∀ x k r, sp = (x, k) :: r → x ∉ [F8.wBegin] from fun x k r e hx => hop ⟨x, k, r, e, by simp only [List.mem_cons, List.not_mem_nil, or_false] at hx; exact hx⟩)
    have HR := Lib.hid (show F8.own .againK ⟨so, sp, sm⟩ ⟨xl, [97, 103, 97, 105, 110], xa⟩ = none from by
      cases sp with
      | nil => rfl
      | cons q r =>
        obtain ⟨a, b⟩ := q
        simp only [F8.own]
        rw [if_neg (fun e => hop ⟨a, b, r, rfl, e⟩)])
    clear hop
    go_enter Tryd.func36, Tryd.ntmps36
    go_wp2_with (first
      | (go_at_call 67; refine (fclose_none _ HM1.out _ [F8.wBegin] HR1.out (by decide) (by have := HNO.out; have := HNP.out; have := HNM.out; simp only [List.length_append, List.length_cons, List.length_nil]; omega) HNONE.out).mono ?_; rintro e w' ⟨rfl, rfl⟩))
    go_ret
    rw [HR.out]
    exact ⟨rfl, HST.out.below.trans HS1.out.below⟩
set_option maxRecDepth 100000 in
set_option maxHeartbeats 4000000 in
theorem fline_repeat {B gm H : Nat} {S : F8.St} (w : World) (vl va : Value) (x : L6.Line) (h : F8.LineIn B gm H S w vl va x) (hx : x.word = [114, 101, 112, 101, 97, 116]) :
    Calls Tryd.prog 36 #[.pointer (some ⟨gm, 0, none⟩), .agg #[vl, .string ⟨x.word.toArray⟩, va]] w (F8.LinePost B gm w (F8.own .repeatK S x)) := by
  obtain ⟨so, sp, sm⟩ := S
  obtain ⟨xl, xw, xa⟩ := x
  dsimp only at hx
  subst hx
  have HI := Lib.hid h
  obtain ⟨A1, c1, rfl⟩ := h.l.form
  obtain ⟨A2, c2, rfl⟩ := h.a.form
  obtain ⟨w1, hw1⟩ : ∃ w1, w.alloc (.cells #[.slice A1 xl.length c1, .string ⟨#[114, 101, 112, 101, 97, 116]⟩, .slice A2 xa.length c2] 42) = w1 := ⟨_, rfl⟩
  obtain ⟨hm1, hs1, hbx⟩ := h.boxed hw1
  have HM0 := Lib.hid hm1
  have HST := Lib.hid hs1
  have HS0 := Lib.hid (F8.Stay.refl gm B w1)
  have HBX := Lib.hid hbx
  obtain ⟨⟨q0, q1, q2⟩, _⟩ := hbx w1 (F8.Stay.refl gm B w1)
  have hno : so.length ≤ 90000 := h.out
  have hnp : sp.length ≤ 90000 := h.opn
  have hnm : sm ≤ 90000 := h.made
  have HNO := Lib.hid hno
  have HNP := Lib.hid hnp
  have HNM := Lib.hid hnm
  have HNW := Lib.hid h.new
  have HLL := Lib.hid (show xl.length ≤ 100000 from h.ll)
  clear hm1 hs1 hbx hno hnp hnm
  clear h
  obtain ⟨w2, hw2⟩ : ∃ w2, w1.alloc (.cells #[.string ⟨#[119, 104, 105, 108, 101]⟩] 9) = w2 := ⟨_, rfl⟩
  obtain ⟨hm1, hs1, hr1⟩ := F8.words_new HM0.out [F8.wWhile] (by decide) #[.string ⟨#[119, 104, 105, 108, 101]⟩] rfl 1 rfl
  rw [hw2] at hm1 hs1 hr1
  have HM1 := Lib.hid hm1
  have HS1 := Lib.hid hs1
  have HR1 := Lib.hid hr1
  obtain ⟨⟨q10, q11, q12⟩, _⟩ := HBX.out _ hs1
  clear hm1 hs1 hr1
  by_cases hop : ∃ w k r, sp = (w, k) :: r ∧ (w = F8.wWhile)
  · obtain ⟨wt, kt, r, rfl, hwt⟩ := hop
    have HMEM := Lib.hid (show wt ∈ [F8.wWhile] from by simp only [List.mem_cons, List.not_mem_nil, or_false]; exact hwt)
    have HRL := Lib.hid (show r.length ≤ 90000 from by have := HNP.out; simp at this; omega)
    have HOWN := Lib.hid hwt
    clear hwt
    by_cases hop2 : ∃ k r2, r = (F8.wBegun, k) :: r2
    · obtain ⟨k2, r2, rfl⟩ := hop2
      have HRL2 := Lib.hid (show r2.length ≤ 90000 from by have := HRL.out; simp at this; omega)
      have HMEM2 := Lib.hid (show F8.wBegun ∈ [F8.wBegun] from by simp)
      have HR := Lib.hid (show F8.own .repeatK ⟨so, (wt, kt) :: (F8.wBegun, k2) :: r2, sm⟩ ⟨xl, [114, 101, 112, 101, 97, 116], xa⟩ = some ⟨so ++ [F8.jmp xl k2] ++ [F8.at_ [] kt], r2, sm⟩ from by simp only [F8.own]; rw [if_pos HOWN.out]; rfl)
      go_enter Tryd.func36, Tryd.ntmps36
      go_wp2_with (first
        | (go_at_call 67; with_reducible refine (fclose_some _ HM1.out _ [F8.wWhile] HR1.out (by decide) (by have := HRL.out; omega) HMEM.out).mono ?_; rintro e w3 ⟨rfl, hm2, hs2⟩; have HM2 := Lib.hid hm2; have HS2 := Lib.hid (HS1.out.trans hs2); clear hm2 hs2; obtain ⟨⟨q20, q21, q22⟩, _⟩ := HBX.out _ HS2.out; obtain ⟨hm3, hs3, hr3⟩ := F8.words_new HM2.out [F8.wBegun] (by decide) #[.string ⟨#[98, 101, 103, 117, 110]⟩] rfl 1 rfl; have HM3 := Lib.hid hm3; have HS3 := Lib.hid (HS2.out.trans hs3); have HR3 := Lib.hid hr3; clear hm3 hs3 hr3; obtain ⟨⟨q30, q31, q32⟩, _⟩ := HBX.out _ HS3.out)
        | (go_at_call 67; with_reducible refine (fclose_some _ HM3.out _ [F8.wBegun] HR3.out (by decide) (by have := HRL2.out; omega) HMEM2.out).mono ?_; rintro e w5 ⟨rfl, hm4, hs4⟩; have HM4 := Lib.hid hm4; have HS4 := Lib.hid (HS3.out.trans hs4); clear hm4 hs4; obtain ⟨⟨q40, q41, q42⟩, _⟩ := HBX.out _ HS4.out)
        | (go_at_call 68; with_reducible refine (fjump_any _ HM4.out _ _ _ xl k2 (HBX.out _ HS4.out).2.1 HNW.out ⟨_, _, _, rfl⟩ (by have := HNO.out; have := HRL.out; have := HNM.out; simp only [List.length_append, List.length_cons, List.length_nil]; omega)).mono ?_; rintro e w6 ⟨rfl, hm5, hs5⟩; have HM5 := Lib.hid hm5; have HS5 := Lib.hid (HS4.out.trans hs5); clear hm5 hs5; obtain ⟨⟨q50, q51, q52⟩, _⟩ := HBX.out _ HS5.out)
        | (go_at_call 69; with_reducible refine (fhere_any _ HM5.out (.slice none 0 0) (.slice none 0 0) ⟨#[]⟩ [] kt (OwnS.nil 0 _).rd (Nat.zero_le _) ⟨_, _, _, rfl⟩ (by have := HNO.out; have := HRL.out; have := HNM.out; simp only [List.length_append, List.length_cons, List.length_nil]; omega)).mono ?_; rintro e w7 ⟨rfl, hm6, hs6⟩; have HM6 := Lib.hid hm6; have HS6 := Lib.hid (HS5.out.trans hs6); clear hm6 hs6; obtain ⟨⟨q60, q61, q62⟩, _⟩ := HBX.out _ HS6.out))
      go_ret
      rw [HR.out]
      exact ⟨rfl, HM6.out.later HM6.out.le (Nat.le_refl _), HST.out.trans HS6.out⟩
    · have HNONE2 := Lib.hid (show ∀ x k r', r = (x, k) :: r' → x ∉ [F8.wBegun] from fun x k r' e hx => hop2 ⟨k, r', by simp only [List.mem_cons, List.not_mem_nil, or_false] at hx; rw [e, hx]⟩)
      have HR := Lib.hid (show F8.own .repeatK ⟨so, (wt, kt) :: r, sm⟩ ⟨xl, [114, 101, 112, 101, 97, 116], xa⟩ = some ⟨so ++ [F8.jmp xl []] ++ [F8.at_ [] kt], r, sm⟩ from by
        simp only [F8.own]
        rw [if_pos HOWN.out]
        cases r with
        | nil => rfl
        | cons q r' =>
          obtain ⟨a, b⟩ := q
          dsimp only
          rw [if_neg (fun e => hop2 ⟨b, r', by rw [e]⟩)])
      clear hop2
      go_enter Tryd.func36, Tryd.ntmps36
      go_wp2_with (first
        | (go_at_call 67; with_reducible refine (fclose_some _ HM1.out _ [F8.wWhile] HR1.out (by decide) (by have := HRL.out; omega) HMEM.out).mono ?_; rintro e w3 ⟨rfl, hm2, hs2⟩; have HM2 := Lib.hid hm2; have HS2 := Lib.hid (HS1.out.trans hs2); clear hm2 hs2; obtain ⟨⟨q20, q21, q22⟩, _⟩ := HBX.out _ HS2.out; obtain ⟨hm3, hs3, hr3⟩ := F8.words_new HM2.out [F8.wBegun] (by decide) #[.string ⟨#[98, 101, 103, 117, 110]⟩] rfl 1 rfl; have HM3 := Lib.hid hm3; have HS3 := Lib.hid (HS2.out.trans hs3); have HR3 := Lib.hid hr3; clear hm3 hs3 hr3; obtain ⟨⟨q30, q31, q32⟩, _⟩ := HBX.out _ HS3.out)
        | (go_at_call 67; refine (fclose_none _ HM3.out _ [F8.wBegun] HR3.out (by decide) (by have := HRL.out; show r.length ≤ 100000; omega) HNONE2.out).mono ?_; rintro e w' ⟨rfl, rfl⟩)
        | (go_at_call 68; with_reducible refine (fjump_any _ HM3.out _ _ _ xl [] (HBX.out _ HS3.out).2.1 HNW.out ⟨_, _, _, rfl⟩ (by have := HNO.out; have := HRL.out; have := HNM.out; simp only [List.length_append, List.length_cons, List.length_nil]; omega)).mono ?_; rintro e w6 ⟨rfl, hm5, hs5⟩; have HM5 := Lib.hid hm5; have HS5 := Lib.hid (HS3.out.trans hs5); clear hm5 hs5; obtain ⟨⟨q50, q51, q52⟩, _⟩ := HBX.out _ HS5.out)
        | (go_at_call 69; with_reducible refine (fhere_any _ HM5.out (.slice none 0 0) (.slice none 0 0) ⟨#[]⟩ [] kt (OwnS.nil 0 _).rd (Nat.zero_le _) ⟨_, _, _, rfl⟩ (by have := HNO.out; have := HRL.out; have := HNM.out; simp only [List.length_append, List.length_cons, List.length_nil]; omega)).mono ?_; rintro e w7 ⟨rfl, hm6, hs6⟩; have HM6 := Lib.hid hm6; have HS6 := Lib.hid (HS5.out.trans hs6); clear hm6 hs6; obtain ⟨⟨q60, q61, q62⟩, _⟩ := HBX.out _ HS6.out))
      go_ret
      rw [HR.out]
      exact ⟨rfl, HM6.out.later HM6.out.le (Nat.le_refl _), HST.out.trans HS6.out⟩
  · have HNONE := Lib.hid (show ∀ x k r, sp = (x, k) :: r → x ∉ [F8.wWhile] from fun x k r e hx => hop ⟨x, k, r, e, by simp only [List.mem_cons, List.not_mem_nil, or_false] at hx; exact hx⟩)
    have HR := Lib.hid (show F8.own .repeatK ⟨so, sp, sm⟩ ⟨xl, [114, 101, 112, 101, 97, 116], xa⟩ = none from by
      cases sp with
      | nil => rfl
      | cons q r =>
        obtain ⟨a, b⟩ := q
        simp only [F8.own]
        rw [if_neg (fun e => hop ⟨a, b, r, rfl, e⟩)])
    clear hop
    go_enter Tryd.func36, Tryd.ntmps36
    go_wp2_with (first
      | (go_at_call 67; refine (fclose_none _ HM1.out _ [F8.wWhile] HR1.out (by decide) (by have := HNO.out; have := HNP.out; have := HNM.out; simp only [List.length_append, List.length_cons, List.length_nil]; omega) HNONE.out).mono ?_; rintro e w' ⟨rfl, rfl⟩))
    go_ret
    rw [HR.out]
    exact ⟨rfl, HST.out.below.trans HS1.out.below⟩
end Go.Proofs.YtfafdkbnmfpbmaaDoor
