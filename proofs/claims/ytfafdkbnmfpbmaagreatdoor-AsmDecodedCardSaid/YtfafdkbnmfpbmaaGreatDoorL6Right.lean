/- The walks of whole, ContainsFunc, Right. -/
import Derived.Test.YtfafdkbnmfpbmaaGreatDoorL6Zone
import Derived.Test.YtfafdkbnmfpbmaaGreatDoorL6Num3
import Derived.Test.YtfafdkbnmfpbmaaGreatDoorL6Parse
namespace Go.Proofs.YtfafdkbnmfpbmaaGreatDoor
open Go.RowKit Kit
set_option linter.unusedVariables false
set_option linter.unusedSimpArgs false

theorem L6.index_mem (c : UInt8) : ∀ l : List UInt8, decide (0 ≤ Lib.indexByte l c) = decide (c ∈ l)
  | [] => by simp [Lib.indexByte]
  | d :: t => by
    have ih := L6.index_mem c t
    unfold Lib.indexByte
    by_cases h : d = c
    · subst h; simp
    · have h' : ¬ c = d := fun e => h e.symm
      rw [if_neg (by simpa using h)]
      have e1 : (c ∈ d :: t) ↔ c ∈ t := by simp [h']
      rw [decide_eq_decide] at ih ⊢
      rw [e1, ← ih]
      have hg := Lib.indexByte_ge t c
      by_cases hm : Lib.indexByte t c = -1
      · rw [if_pos (by simpa using hm)]
        omega
      · rw [if_neg (by simpa using hm)]
        omega
/-- Is a text just one word? -/
def L6.whole (s : List UInt8) : Bool := decide (L6.wordsOf s = some [s]) && decide (10 ∉ s)
def L6.quoted (s : List UInt8) : Bool := Lib.hasPrefix s [34]
/-- May a line be? -/
def L6.right (x : L6.Line) : Bool := !(x.labels.any (fun s => !L6.whole s) || x.labels.any L6.quoted || x.args.any (fun s => !L6.whole s)) &&
  if x.word = [] then decide (x.args = []) else L6.whole x.word && (!L6.quoted x.word && !L6.label x.word)
theorem lwhole_any (s : List UInt8) (w : World) (hs : s.length ≤ 1000000000) : Calls Tryz.prog 117 #[.string ⟨s.toArray⟩] w fun e w' => e = .returned (.bool (L6.whole s)) ∧ Below w.heap.size w w' := by
  have CW := lwords_any s w hs
  have CC := Lib.hid (show ∀ W, Calls Tryz.prog 181 #[.string ⟨s.toArray⟩, .string ⟨#[10]⟩] W fun e w' => e = .returned (.bool (decide (10 ∈ s))) ∧ W = w' from fun W => (Tryz.strings_Contains_one ⟨s.toArray⟩ 10 W).mono fun e w' h => ⟨by rw [h.1]; exact lret_bool (L6.index_mem 10 s), h.2.symm⟩)
  cases hw : L6.wordsOf s with
  | none =>
    have CN := Lib.hid (CW.mono (R' := fun e w' => e = .returned (.tuple #[.slice none 0 0, .bool false]) ∧ Below w.heap.size w w') (fun e w' hh => by rw [hw] at hh; exact hh))
    have HR := Lib.hid (show L6.whole s = false from by unfold L6.whole; rw [hw]; rfl)
    clear CW hw
    go_enter Tryz.func117, Tryz.ntmps117
    go_wp2_with (go_at_call 127; refine CN.out.mono ?_; rintro e w1 ⟨rfl, hb1⟩)
    go_ret
    exact ⟨lret_bool HR.out.symm, hb1⟩
  | some ws =>
    have CS := Lib.hid (CW.mono (R' := fun e w' => ∃ v, e = .returned (.tuple #[v, .bool true]) ∧ OwnS w.heap.size w' v ws ∧ Below w.heap.size w w') (fun e w' hh => by rw [hw] at hh; exact hh))
    have HW := Lib.hid hw
    clear CW hw
    match ws with
    | [] =>
      have HR := Lib.hid (show L6.whole s = false from by unfold L6.whole; rw [HW.out]; simp)
      go_enter Tryz.func117, Tryz.ntmps117
      go_wp2_with (go_at_call 127; refine CS.out.mono ?_; rintro e w1 ⟨v, rfl, hv, hb1⟩; obtain ⟨A, c, rfl⟩ := hv.form)
      go_ret
      exact ⟨lret_bool HR.out.symm, hb1⟩
    | x :: y :: t =>
      have HR := Lib.hid (show L6.whole s = false from by unfold L6.whole; rw [HW.out]; simp)
      have hlen : (((x :: y :: t).length : Int) == 1) = false := by rw [beq_eq_false_iff_ne]; simp; omega
      generalize hg : (x :: y :: t).length = n at hlen
      go_enter Tryz.func117, Tryz.ntmps117
      go_wp2_with (go_at_call 127; refine CS.out.mono ?_; rintro e w1 ⟨v, rfl, hv, hb1⟩; obtain ⟨A, c, rfl⟩ := hv.form; rw [hg])
      go_ret
      exact ⟨lret_bool HR.out.symm, hb1⟩
    | [x] =>
      by_cases hx : x = s
      · subst hx
        have HR := Lib.hid (show L6.whole x = !decide (10 ∈ x) from by unfold L6.whole; rw [HW.out]; simp)
        clear HW
        generalize decide (10 ∈ x) = b at *
        go_enter Tryz.func117, Tryz.ntmps117
        go_wp2_with (first | (go_at_call 127; refine CS.out.mono ?_; rintro e w1 ⟨v, rfl, hv, hb1⟩; obtain ⟨g, off, c, rfl, hg, hc⟩ := (OwnS.rd hv).at (k := 0) (by simp); simp only [Nat.add_zero, List.getD_cons_zero, List.length_cons, List.length_nil] at hc) | (go_at_call 181; refine (CC.out _).mono ?_; rintro e w' ⟨rfl, rfl⟩))
        go_ret
        exact ⟨lret_bool HR.out.symm, hb1⟩
      · have hxx : (x == s) = false := by rw [beq_eq_false_iff_ne]; exact hx
        have HR := Lib.hid (show L6.whole s = false from by unfold L6.whole; rw [HW.out]; simp [hx])
        clear HW hx
        go_enter Tryz.func117, Tryz.ntmps117
        go_wp2_with (go_at_call 127; refine CS.out.mono ?_; rintro e w1 ⟨v, rfl, hv, hb1⟩; obtain ⟨g, off, c, rfl, hg, hc⟩ := (OwnS.rd hv).at (k := 0) (by simp); simp only [Nat.add_zero, List.getD_cons_zero, List.length_cons, List.length_nil] at hc)
        go_ret
        exact ⟨lret_bool HR.out.symm, hb1⟩
theorem lbad_any (s : List UInt8) (w : World) (hs : s.length ≤ 1000000000) : Calls Tryz.prog 116 #[.string ⟨s.toArray⟩] w fun e w' => e = .returned (.bool (!L6.whole s)) ∧ Below w.heap.size w w' := by
  have CW := Lib.hid (lwhole_any s w hs)
  go_enter Tryz.func116, Tryz.ntmps116
  go_wp2_with (go_at_call 117; refine CW.out.mono ?_; rintro e w1 ⟨rfl, hb1⟩)
  go_ret
  exact ⟨rfl, hb1⟩
theorem lquoted_any (s : List UInt8) (w : World) (hs : s.length ≤ 1000000000) : Calls Tryz.prog 118 #[.string ⟨s.toArray⟩] w fun e w' => e = .returned (.bool (L6.quoted s)) ∧ Below w.heap.size w w' := by
  have CP := Lib.hid (fun W => Tryz.strings_HasPrefix ⟨s.toArray⟩ ⟨#[34]⟩ W)
  go_enter Tryz.func118, Tryz.ntmps118
  go_wp2_with (go_at_call 119; refine (CP.out _).mono ?_; rintro e w' ⟨rfl, rfl⟩)
  go_ret
  exact ⟨rfl, Below.refl _ _⟩
/-- The index that IndexFunc tells. -/
def L6.idx (p : List UInt8 → Bool) (l : List (List UInt8)) : Int := if l.any p then (l.findIdx p : Nat) else -1
theorem L6.idx_yes {p : List UInt8 → Bool} {l : List (List UInt8)} {k : Nat} (hk : k < l.length) (h : p (l.getD k []) = true) (hno : ∀ j, j < k → p (l.getD j []) = false) : L6.idx p l = k := by
  have hm : l.getD k [] ∈ l := by rw [List.getD, List.getElem?_eq_getElem hk]; exact List.getElem_mem hk
  have ha : l.any p = true := List.any_eq_true.2 ⟨_, hm, h⟩
  unfold L6.idx
  rw [if_pos ha, (List.findIdx_eq hk).2 ⟨by simpa [List.getD, hk] using h, fun j hj => by have := hno j hj; rw [List.getD, List.getElem?_eq_getElem (by omega)] at this; simpa using this⟩]
theorem L6.idx_no {p : List UInt8 → Bool} {l : List (List UInt8)} (hno : ∀ j, j < l.length → p (l.getD j []) = false) : L6.idx p l = -1 := by
  have ha : ¬ l.any p = true := by
    intro h
    obtain ⟨x, hx, hp⟩ := List.any_eq_true.1 h
    obtain ⟨i, hi, rfl⟩ := List.mem_iff_getElem.1 hx
    have := hno i hi
    rw [List.getD, List.getElem?_eq_getElem hi] at this
    simp only [Option.getD_some] at this
    rw [hp] at this; cases this
  unfold L6.idx
  rw [if_neg ha]
theorem L6.idx_any (p : List UInt8 → Bool) (l : List (List UInt8)) : decide ((0 : Int) ≤ L6.idx p l) = l.any p := by
  unfold L6.idx
  cases h : l.any p
  · simp
  · simp
theorem lret_int {a b : Int} (h : a = b) : Ending.returned (.int .i64 a) = .returned (.int .i64 b) := by rw [h]

set_option maxRecDepth 20000 in
set_option maxHeartbeats 1000000 in
theorem lindex_bad (v : Value) (l : List (List UInt8)) (w : World) (h : RdS w v l) (hl : l.length ≤ 1000000000) (hs : ∀ x ∈ l, x.length ≤ 1000000000) :
    Calls Tryz.prog 183 #[v, .func (.func 116) #[] #[]] w fun e w' => e = .returned (.int .i64 (L6.idx (fun s => !L6.whole s) l)) ∧ Below w.heap.size w w' := by
  have HH := Lib.hid h
  have HL := Lib.hid hl
  have HS := Lib.hid hs
  have HY := Lib.hid (fun (k : Nat) hk h hno => L6.idx_yes (p := fun s => !L6.whole s) (l := l) (k := k) hk h hno)
  have HNO := Lib.hid (fun hno => L6.idx_no (p := fun s => !L6.whole s) (l := l) hno)
  obtain ⟨A, c, rfl⟩ := h.form
  clear h hl hs
  go_enter Tryz.func183, Tryz.ntmps183
  go_wp2_with fail
  go_loopw [8] (fun i wr => ∃ k : Nat, k ≤ l.length ∧ i = .int .i64 (k : Int) ∧ (∀ j, j < k → (fun s => !L6.whole s) (l.getD j []) = false) ∧ Below w.heap.size w wr) (fun i _ => l.length - (intOf i).toNat)
  case atStart => exact ⟨0, Nat.zero_le _, rfl, fun j hj => absurd hj (by omega), Below.refl _ _⟩
  case round =>
    obtain ⟨k, hk, rfl, hno, hbr⟩ := hrel
    have HN := Lib.hid hno
    have HBR := Lib.hid hbr
    clear hno hbr
    by_cases hlt : k < l.length
    · have hlt' : (k : Int) < (l.length : Int) := by omega
      have hw1 : IntKind.i64.wrap ((k : Int) + 1) = (k : Int) + 1 := by have := HL.out; rw [IntKind.wrap_i64]; omega
      obtain ⟨g, off, c', e, hg, hcell⟩ := HH.out.at hlt
      injection e with e1 e2 e3
      subst e1 e3
      have hcr : wr.cell? ⟨g, off + k, none⟩ = some (.string ⟨(l.getD k []).toArray⟩) := (HBR.out.cell (p := ⟨g, off + k, none⟩) hg).trans hcell
      have hxl : (l.getD k []).length ≤ 1000000000 := HS.out _ (by rw [List.getD, List.getElem?_eq_getElem hlt]; exact List.getElem_mem hlt)
      have HLT := Lib.hid hlt
      have HYK := Lib.hid (fun h => HY.out k HLT.out h HN.out)
      have HNK := Lib.hid (fun (h : (fun s => !L6.whole s) (l.getD k []) = false) j (hj : j < k + 1) => show (fun s => !L6.whole s) (l.getD j []) = false from by
        by_cases e : j = k
        · rw [e]; exact h
        · exact HN.out j (by omega))
      clear hcell hlt
      generalize l.getD k [] = x at *
      have CB := Lib.hid (lbad_any x wr hxl)
      cases hb : (fun s => !L6.whole s) x
      · have CF := Lib.hid (CB.out.mono (R' := fun e w' => e = .returned (.bool false) ∧ Below wr.heap.size wr w') (fun e w' hh => ⟨hh.1.trans (lret_bool hb), hh.2⟩))
        have HK := Lib.hid (HNK.out hb)
        clear hb CB HNK HYK
        go_wp2_with (go_at_call 116; refine CF.out.mono ?_; rintro e w1 ⟨rfl, hb1⟩)
        go_roundw
        case rel => exact ⟨k + 1, HLT.out, by simp, HK.out, HBR.out.trans (hb1.mono HBR.out.size)⟩
        case measure => simp [intOf]; have := HLT.out; omega
      · have CF := Lib.hid (CB.out.mono (R' := fun e w' => e = .returned (.bool true) ∧ Below wr.heap.size wr w') (fun e w' hh => ⟨hh.1.trans (lret_bool hb), hh.2⟩))
        have HK := Lib.hid (HYK.out hb)
        clear hb CB HNK HYK
        go_wp2_with (go_at_call 116; refine CF.out.mono ?_; rintro e w1 ⟨rfl, hb1⟩)
        go_ret
        exact ⟨lret_int HK.out.symm, HBR.out.trans (hb1.mono HBR.out.size)⟩
    · obtain rfl : k = l.length := by omega
      have HR := Lib.hid (HNO.out HN.out)
      go_wp2_with fail
      go_ret
      exact ⟨lret_int HR.out.symm, HBR.out⟩
theorem lcontains_bad (v : Value) (l : List (List UInt8)) (w : World) (h : RdS w v l) (hl : l.length ≤ 1000000000) (hs : ∀ x ∈ l, x.length ≤ 1000000000) :
    Calls Tryz.prog 120 #[v, .func (.func 116) #[] #[]] w fun e w' => e = .returned (.bool (l.any (fun s => !L6.whole s))) ∧ Below w.heap.size w w' := by
  have CI := Lib.hid (lindex_bad v l w h hl hs)
  have HA := Lib.hid (L6.idx_any (fun s => !L6.whole s) l)
  obtain ⟨A, c, rfl⟩ := h.form
  go_enter Tryz.func120, Tryz.ntmps120
  go_wp2_with (go_at_call 183; refine CI.out.mono ?_; rintro e w1 ⟨rfl, hb1⟩)
  go_ret
  exact ⟨lret_bool HA.out, hb1⟩

set_option maxRecDepth 20000 in
set_option maxHeartbeats 1000000 in
theorem lindex_quoted (v : Value) (l : List (List UInt8)) (w : World) (h : RdS w v l) (hl : l.length ≤ 1000000000) (hs : ∀ x ∈ l, x.length ≤ 1000000000) :
    Calls Tryz.prog 183 #[v, .func (.func 118) #[] #[]] w fun e w' => e = .returned (.int .i64 (L6.idx (L6.quoted) l)) ∧ Below w.heap.size w w' := by
  have HH := Lib.hid h
  have HL := Lib.hid hl
  have HS := Lib.hid hs
  have HY := Lib.hid (fun (k : Nat) hk h hno => L6.idx_yes (p := L6.quoted) (l := l) (k := k) hk h hno)
  have HNO := Lib.hid (fun hno => L6.idx_no (p := L6.quoted) (l := l) hno)
  obtain ⟨A, c, rfl⟩ := h.form
  clear h hl hs
  go_enter Tryz.func183, Tryz.ntmps183
  go_wp2_with fail
  go_loopw [8] (fun i wr => ∃ k : Nat, k ≤ l.length ∧ i = .int .i64 (k : Int) ∧ (∀ j, j < k → (L6.quoted) (l.getD j []) = false) ∧ Below w.heap.size w wr) (fun i _ => l.length - (intOf i).toNat)
  case atStart => exact ⟨0, Nat.zero_le _, rfl, fun j hj => absurd hj (by omega), Below.refl _ _⟩
  case round =>
    obtain ⟨k, hk, rfl, hno, hbr⟩ := hrel
    have HN := Lib.hid hno
    have HBR := Lib.hid hbr
    clear hno hbr
    by_cases hlt : k < l.length
    · have hlt' : (k : Int) < (l.length : Int) := by omega
      have hw1 : IntKind.i64.wrap ((k : Int) + 1) = (k : Int) + 1 := by have := HL.out; rw [IntKind.wrap_i64]; omega
      obtain ⟨g, off, c', e, hg, hcell⟩ := HH.out.at hlt
      injection e with e1 e2 e3
      subst e1 e3
      have hcr : wr.cell? ⟨g, off + k, none⟩ = some (.string ⟨(l.getD k []).toArray⟩) := (HBR.out.cell (p := ⟨g, off + k, none⟩) hg).trans hcell
      have hxl : (l.getD k []).length ≤ 1000000000 := HS.out _ (by rw [List.getD, List.getElem?_eq_getElem hlt]; exact List.getElem_mem hlt)
      have HLT := Lib.hid hlt
      have HYK := Lib.hid (fun h => HY.out k HLT.out h HN.out)
      have HNK := Lib.hid (fun (h : (L6.quoted) (l.getD k []) = false) j (hj : j < k + 1) => show (L6.quoted) (l.getD j []) = false from by
        by_cases e : j = k
        · rw [e]; exact h
        · exact HN.out j (by omega))
      clear hcell hlt
      generalize l.getD k [] = x at *
      have CB := Lib.hid (lquoted_any x wr hxl)
      cases hb : (L6.quoted) x
      · have CF := Lib.hid (CB.out.mono (R' := fun e w' => e = .returned (.bool false) ∧ Below wr.heap.size wr w') (fun e w' hh => ⟨hh.1.trans (lret_bool hb), hh.2⟩))
        have HK := Lib.hid (HNK.out hb)
        clear hb CB HNK HYK
        go_wp2_with (go_at_call 118; refine CF.out.mono ?_; rintro e w1 ⟨rfl, hb1⟩)
        go_roundw
        case rel => exact ⟨k + 1, HLT.out, by simp, HK.out, HBR.out.trans (hb1.mono HBR.out.size)⟩
        case measure => simp [intOf]; have := HLT.out; omega
      · have CF := Lib.hid (CB.out.mono (R' := fun e w' => e = .returned (.bool true) ∧ Below wr.heap.size wr w') (fun e w' hh => ⟨hh.1.trans (lret_bool hb), hh.2⟩))
        have HK := Lib.hid (HYK.out hb)
        clear hb CB HNK HYK
        go_wp2_with (go_at_call 118; refine CF.out.mono ?_; rintro e w1 ⟨rfl, hb1⟩)
        go_ret
        exact ⟨lret_int HK.out.symm, HBR.out.trans (hb1.mono HBR.out.size)⟩
    · obtain rfl : k = l.length := by omega
      have HR := Lib.hid (HNO.out HN.out)
      go_wp2_with fail
      go_ret
      exact ⟨lret_int HR.out.symm, HBR.out⟩
theorem lcontains_quoted (v : Value) (l : List (List UInt8)) (w : World) (h : RdS w v l) (hl : l.length ≤ 1000000000) (hs : ∀ x ∈ l, x.length ≤ 1000000000) :
    Calls Tryz.prog 120 #[v, .func (.func 118) #[] #[]] w fun e w' => e = .returned (.bool (l.any (L6.quoted))) ∧ Below w.heap.size w w' := by
  have CI := Lib.hid (lindex_quoted v l w h hl hs)
  have HA := Lib.hid (L6.idx_any (L6.quoted) l)
  obtain ⟨A, c, rfl⟩ := h.form
  go_enter Tryz.func120, Tryz.ntmps120
  go_wp2_with (go_at_call 183; refine CI.out.mono ?_; rintro e w1 ⟨rfl, hb1⟩)
  go_ret
  exact ⟨lret_bool HA.out, hb1⟩
end Go.Proofs.YtfafdkbnmfpbmaaGreatDoor
