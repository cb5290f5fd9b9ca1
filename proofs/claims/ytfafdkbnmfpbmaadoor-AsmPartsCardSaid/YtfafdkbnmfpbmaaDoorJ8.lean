/- Texts joined: L6Print, KitW, L6Open, L6Light, L6Tab. -/
import Derived.Test.YtfafdkbnmfpbmaaDoorJ7
import Derived.Test.YtfafdkbnmfpbmaaDoorJ3
import Derived.SizedLaws
import Derived.SliceStrings
import Derived.Test.YtfafdkbnmfpbmaaDoorJ6
import Derived.Test.YtfafdkbnmfpbmaaDoorJ5
import Derived.LaidMore
import Derived.LaidHandle
import Derived.MakeChecks
/- Lines as text: plain, and the walk of Print. -/
namespace Go.Proofs.YtfafdkbnmfpbmaaDoor
open Go.RowKit Kit
set_option linter.unusedVariables false
set_option linter.unusedSimpArgs false

/-- How great lines are. -/
def L6.tsum (l : List (List UInt8)) : Nat := (l.map List.length).sum
def L6.lweight (x : L6.Line) : Nat := 4 + x.word.length + x.labels.length + x.args.length + L6.tsum x.labels + L6.tsum x.args
def L6.weight (ls : List L6.Line) : Nat := (ls.map L6.lweight).sum
theorem L6.tsum_cons (x : List UInt8) (t : List (List UInt8)) : L6.tsum (x :: t) = x.length + L6.tsum t := by simp [L6.tsum]
theorem L6.tsum_app (a b : List (List UInt8)) : L6.tsum (a ++ b) = L6.tsum a + L6.tsum b := by simp [L6.tsum]
theorem L6.weight_cons (x : L6.Line) (t : List L6.Line) : L6.weight (x :: t) = L6.lweight x + L6.weight t := by simp [L6.weight]
theorem L6.tsum_mem {l : List (List UInt8)} {x : List UInt8} (h : x ∈ l) : x.length ≤ L6.tsum l := by
  induction l with
  | nil => simp at h
  | cons y t ih =>
    rw [L6.tsum_cons]
    rcases List.mem_cons.1 h with rfl | h
    · omega
    · have := ih h; omega
theorem L6.weight_mem {ls : List L6.Line} {x : L6.Line} (h : x ∈ ls) : L6.lweight x ≤ L6.weight ls := by
  induction ls with
  | nil => simp at h
  | cons y t ih =>
    rw [L6.weight_cons]
    rcases List.mem_cons.1 h with rfl | h
    · omega
    · have := ih h; omega
theorem L6.weight_len (ls : List L6.Line) : 4 * ls.length ≤ L6.weight ls := by
  induction ls with
  | nil => simp
  | cons y t ih => rw [L6.weight_cons, List.length_cons]; unfold L6.lweight; omega
theorem L6.few_of {x : L6.Line} (h : L6.lweight x ≤ 100000000) : x.Few := by
  unfold L6.lweight at h
  refine ⟨⟨by omega, fun y hy => ?_⟩, by omega, by omega, fun y hy => ?_⟩
  · have := L6.tsum_mem hy; omega
  · have := L6.tsum_mem hy; omega
/-- A line's words as they are printed. -/
def L6.marked (l : List (List UInt8)) : List (List UInt8) := l.map (· ++ [58])
def L6.lineWords (x : L6.Line) : List (List UInt8) := L6.marked x.labels ++ (if x.word = [] then [] else [x.word]) ++ x.args
def L6.lineText (x : L6.Line) : List UInt8 := Lib.join (L6.lineWords x) [32] ++ [10]
def L6.text (ls : List L6.Line) : List UInt8 := ls.flatMap L6.lineText
def L6.print (ls : List L6.Line) : List UInt8 × Nat := if ls.all L6.right then (L6.text ls, 0) else ([], 1)
theorem L6.marked_len (l : List (List UInt8)) : (L6.marked l).length = l.length := by simp [L6.marked]
theorem L6.marked_sum (l : List (List UInt8)) : L6.tsum (L6.marked l) = L6.tsum l + l.length := by
  induction l with
  | nil => rfl
  | cons x t ih =>
    show L6.tsum ((x ++ [58]) :: L6.marked t) = _
    rw [L6.tsum_cons, ih, L6.tsum_cons]
    simp; omega
theorem L6.joinTail_len (r : List (List UInt8)) : (Lib.joinTail [32] r).length = L6.tsum r + r.length := by
  induction r with
  | nil => rfl
  | cons x t ih =>
    have e : Lib.joinTail [32] (x :: t) = 32 :: x ++ Lib.joinTail [32] t := by simp [Lib.joinTail]
    rw [e, L6.tsum_cons]
    simp [ih]; omega
theorem L6.join_len (l : List (List UInt8)) : (Lib.join l [32]).length ≤ L6.tsum l + l.length := by
  cases l with
  | nil => simp [Lib.join_nil]
  | cons x t =>
    rw [Lib.join_cons, List.length_append, L6.joinTail_len, L6.tsum_cons]
    simp; omega
theorem L6.lineWords_len (x : L6.Line) : (L6.lineWords x).length ≤ x.labels.length + 1 + x.args.length := by
  unfold L6.lineWords
  split <;> simp [L6.marked_len] <;> omega
theorem L6.lineWords_sum (x : L6.Line) : L6.tsum (L6.lineWords x) ≤ L6.tsum x.labels + x.labels.length + x.word.length + L6.tsum x.args := by
  unfold L6.lineWords
  rw [L6.tsum_app, L6.tsum_app, L6.marked_sum]
  split
  · simp [L6.tsum]
  · rw [L6.tsum_cons]; simp [L6.tsum]
theorem L6.lineText_len (x : L6.Line) : (L6.lineText x).length ≤ 2 * L6.lweight x := by
  unfold L6.lineText
  have h1 := L6.join_len (L6.lineWords x)
  have h2 := L6.lineWords_len x
  have h3 := L6.lineWords_sum x
  simp only [List.length_append, List.length_cons, List.length_nil]
  unfold L6.lweight
  omega
theorem L6.text_len (ls : List L6.Line) : (L6.text ls).length ≤ 2 * L6.weight ls := by
  induction ls with
  | nil => simp [L6.text]
  | cons x t ih =>
    have := L6.lineText_len x
    rw [L6.weight_cons]
    show (L6.lineText x ++ L6.text t).length ≤ _
    rw [List.length_append]
    omega
theorem L6.text_snoc (ls : List L6.Line) (x : L6.Line) : L6.text (ls ++ [x]) = L6.text ls ++ L6.lineText x := by simp [L6.text]
theorem L6.weight_take (ls : List L6.Line) (k : Nat) : L6.weight (ls.take k) ≤ L6.weight ls := by
  induction ls generalizing k with
  | nil => simp
  | cons x t ih =>
    cases k with
    | zero => simp [L6.weight]
    | succ k => rw [List.take_succ_cons, L6.weight_cons, L6.weight_cons]; have := ih k; omega
theorem ljoin_any (v : Value) (l : List (List UInt8)) (w : World) (h : RdS w v l) (hl : l.length + L6.tsum l ≤ 1000000000) :
    Calls Tryd.prog 58 #[v, .string ⟨#[32]⟩] w fun e w' => e = .returned (.string ⟨(Lib.join l [32]).toArray⟩) ∧ Below w.heap.size w w' := by
  cases l with
  | nil =>
    obtain ⟨A, c, rfl⟩ := h.nil_form
    exact (Tryd.strings_Join_none A c ⟨#[32]⟩ w).mono fun e w' hh => ⟨hh.1, by rw [hh.2]; exact Below.refl _ _⟩
  | cons x t =>
    have hpos : 0 < (x :: t).length := by simp
    have hj := L6.join_len (x :: t)
    generalize x :: t = ys at *
    obtain ⟨hl1, A, c, rfl, h2, h3, h4⟩ := h
    obtain ⟨g, off, rfl, hg, hc⟩ := h4 hpos
    have e1 : (ys.map fun y => (⟨y.toArray⟩ : ByteArray)).map (·.data.toList) = ys := by simp [List.map_map, Function.comp_def]
    have := Tryd.strings_Join g off c (ys.map fun y => (⟨y.toArray⟩ : ByteArray)) ⟨#[32]⟩ w (fun j x hx => by
      rw [List.getElem?_map, Option.map_eq_some_iff] at hx
      obtain ⟨y, hy, rfl⟩ := hx
      exact hc j _ (by simp [L6.sv, hy])) hg (by simp; omega) (by simpa using h2) (by rw [e1]; show (Lib.join ys [32]).length ≤ _; omega)
    rw [e1, List.length_map] at this
    exact this
end Go.Proofs.YtfafdkbnmfpbmaaDoor

namespace Go.Proofs.YtfafdkbnmfpbmaaDoor
open Go.RowKit Kit
set_option linter.unusedVariables false
set_option linter.unusedSimpArgs false

theorem L6.print_no {ls : List L6.Line} {k : Nat} (hk : k < ls.length) (h : L6.right ls[k] = false) : L6.print ls = ([], 1) := by
  unfold L6.print
  rw [if_neg]
  intro ha
  rw [List.all_eq_true.1 ha _ (List.getElem_mem hk)] at h
  cases h
theorem L6.print_yes {ls : List L6.Line} (h : ∀ j (hj : j < ls.length), L6.right ls[j] = true) : L6.print ls = (L6.text ls, 0) := by
  unfold L6.print
  rw [if_pos]
  rw [List.all_eq_true]
  intro x hx
  obtain ⟨i, hi, rfl⟩ := List.mem_iff_getElem.1 hx
  exact h i hi
theorem lret_si {a a' : ByteArray} {b b' : Int} (h1 : a = a') (h2 : b = b') : Ending.returned (.tuple #[.string a, .int .i64 b]) = .returned (.tuple #[.string a', .int .i64 b']) := by rw [h1, h2]
theorem L6.marked_take {l : List (List UInt8)} {j : Nat} (hj : j < l.length) : L6.marked (l.take (j + 1)) = L6.marked (l.take j) ++ [l.getD j [] ++ [58]] := by
  unfold L6.marked
  rw [List.take_add_one, List.getElem?_eq_getElem hj, List.map_append]
  simp [List.getD, hj]
theorem app_eq (a b : List UInt8) : (⟨a.toArray⟩ : ByteArray) ++ ⟨b.toArray⟩ = ⟨(a ++ b).toArray⟩ := by
  apply ByteArray.ext
  rw [ByteArray.data_append]
  simp
theorem OwnS.snoc {base : Nat} {w : World} {v : Value} {l : List (List UInt8)} {y : List UInt8} {n : Nat} (hn : l.length = n) (h : w.ownsRow base 9 1 v (n + 1) (L6.sv l ++ [.string ⟨y.toArray⟩])) : OwnS base w v (l ++ [y]) := by
  unfold OwnS
  rw [L6.sv_append, List.length_append, hn]
  exact h
theorem OwnS.many {base : Nat} {w : World} {v : Value} {l r : List (List UInt8)} {n m : Nat} (hn : l.length = n) (hm : r.length = m) (h : w.ownsRow base 9 1 v (n + m) (L6.sv l ++ L6.sv r)) : OwnS base w v (l ++ r) := by
  unfold OwnS
  rw [L6.sv_append, List.length_append, hn, hm]
  exact h
theorem OwnS.row {base : Nat} {w : World} {v : Value} {l : List (List UInt8)} {n : Nat} (h : OwnS base w v l) (hn : l.length = n) : w.ownsRow base 9 1 v n (L6.sv l) := by
  unfold OwnS at h
  rw [hn] at h
  exact h
theorem src_texts {w : World} {v : Value} {l : List (List UInt8)} (h : RdS w v l) : Src Tryd.prog 1 39 v l.length (L6.sv l) w := Rd.src lsrt h (L6.sv_one l)
set_option maxRecDepth 100000 in
set_option maxHeartbeats 4000000 in
theorem lprint_any (v : Value) (ls : List L6.Line) (w : World) (h : RdL w v ls) (hw : L6.weight ls ≤ 100000000) :
    Calls Tryd.prog 30 #[v] w fun e w' => e = .returned (.tuple #[.string ⟨(L6.print ls).1.toArray⟩, .int .i64 (L6.print ls).2]) ∧ Below w.heap.size w w' := by
  have HH := Lib.hid h
  have HW := Lib.hid hw
  have HLL := Lib.hid (show ls.length ≤ 100000000 from by have := L6.weight_len ls; omega)
  have HFEW := Lib.hid (show ∀ x ∈ ls, x.Few from fun x hx => L6.few_of (Nat.le_trans (L6.weight_mem hx) hw))
  have HNO := Lib.hid (fun (k : Nat) => L6.print_no (ls := ls) (k := k))
  have HYES := Lib.hid (L6.print_yes (ls := ls))
  obtain ⟨A, c, rfl⟩ := h.form
  clear h hw
  go_enter Tryd.func30, Tryd.ntmps30
  go_wp2_with fail
  have HB0 := Lib.hid (show Below w.heap.size w (w.alloc (.cells #[.pointer none, .slice none 0 0] 112)) from (Below.refl _ _).alloc (Nat.le_refl _) _)
  have HBD0 := Lib.hid (Bd.fresh w)
  go_loopw [12] (fun i wr => ∃ k : Nat, i = .int .i64 (k : Int) ∧ k ≤ ls.length ∧ Bd w.heap.size w.heap.size (L6.text (ls.take k)) wr ∧ Below w.heap.size w wr ∧ ∀ j (hj : j < ls.length), j < k → L6.right ls[j] = true) (fun i _ => match i with | .int _ n => ls.length - n.toNat | _ => 0)
  case atStart => exact ⟨0, rfl, Nat.zero_le _, HBD0.out, HB0.out, fun j _ hj => absurd hj (by omega)⟩
  case round =>
    obtain ⟨k, rfl, hk, hbd, hbr, hri⟩ := hrel
    have HBD := Lib.hid hbd
    have HBR := Lib.hid hbr
    have HRI := Lib.hid hri
    clear hbd hbr hri
    by_cases hlt : k < ls.length
    · have hlt' : (k : Int) < (ls.length : Int) := by omega
      have hw1 : IntKind.i64.wrap ((k : Int) + 1) = (k : Int) + 1 := by have := HLL.out; rw [IntKind.wrap_i64]; omega
      obtain ⟨g, off, c', vl, va, e, hg, c0, c1, c2, r1, r2⟩ := HH.out.at hlt
      injection e with e1 e2 e3
      subst e1 e3
      have HX := Lib.hid (show ls.take (k + 1) = ls.take k ++ [ls[k]] from lines_take hlt)
      have HFX := Lib.hid (HFEW.out _ (List.getElem_mem hlt))
      have HWX := Lib.hid (Nat.le_trans (L6.weight_mem (List.getElem_mem hlt)) HW.out)
      have HNK := Lib.hid (HNO.out k hlt)
      have HLT := Lib.hid hlt
      have HRK := Lib.hid (fun (h1 : L6.right ls[k] = true) j (hj : j < ls.length) (hjk : j < k + 1) => show L6.right ls[j] = true from by
        by_cases e : j = k
        · subst e; exact h1
        · exact HRI.out j hj (by omega))
      have q0 := (HBR.out.cell (p := ⟨g, off + k * 3, none⟩) hg).trans c0
      have q1 := (HBR.out.cell (p := ⟨g, off + k * 3 + 1, none⟩) hg).trans c1
      have q2 := (HBR.out.cell (p := ⟨g, off + k * 3 + 2, none⟩) hg).trans c2
      have HR1 := Lib.hid (r1.kept HBR.out)
      have HR2 := Lib.hid (r2.kept HBR.out)
      clear c0 c1 c2 r1 r2
      generalize hX : ls[k] = X at *
      clear hX
      obtain ⟨xl, xw, xa⟩ := X
      dsimp only at HR1 HR2 q1
      obtain ⟨B1, cc1, rfl⟩ := HR1.out.form
      obtain ⟨B2, cc2, rfl⟩ := HR2.out.form
      have HAL := Lib.hid (show Below wr.heap.size wr (wr.alloc (.cells #[.slice B1 xl.length cc1, .string ⟨xw.toArray⟩, .slice B2 xa.length cc2] 42)) from (Below.refl _ _).alloc (Nat.le_refl _) _)
      have HBK := Lib.hid (Bk.fresh wr 42 #[.slice B1 xl.length cc1, .string ⟨xw.toArray⟩, .slice B2 xa.length cc2])
      have CR := Lib.hid (lright_any (.slice B1 xl.length cc1) (.slice B2 xa.length cc2) ⟨xl, xw, xa⟩ _ (HR1.out.kept HAL.out) (HR2.out.kept HAL.out) HFX.out)
      cases hrx : L6.right ⟨xl, xw, xa⟩
      · have HR := Lib.hid (HNK.out hrx)
        rw [hrx] at CR
        clear HNK HRK hrx
        go_wp2_with (go_at_call 56; refine CR.out.mono ?_; rintro e w1 ⟨rfl, hb1⟩)
        go_ret2
        exact ⟨lret_si (by rw [HR.out]) (by rw [HR.out]; rfl), HBR.out.trans ((HAL.out.trans (hb1.mono HAL.out.size)).mono HBR.out.size)⟩
      · have HRN := Lib.hid (HRK.out hrx)
        rw [hrx] at CR
        clear HNK HRK hrx
        go_wp2_with (go_at_call 56; refine CR.out.mono ?_; rintro e w1 ⟨rfl, hb1⟩; have hk1 := HBK.out.kept hb1; have p0 := hk1.cell 0; have p1 := hk1.cell 1; have p2 := hk1.cell 2)
        have HB1 := Lib.hid (HAL.out.trans (hb1.mono HAL.out.size))
        have HK1 := Lib.hid hk1
        clear hk1 hb1
        go_loopw [7, 22] (fun o i wi => ∃ j : Nat, i = .int .i64 (j : Int) ∧ j ≤ xl.length ∧ OwnS w1.heap.size wi o (L6.marked (xl.take j)) ∧ Below w1.heap.size w1 wi) (fun _ i _ => match i with | .int _ n => xl.length - n.toNat | _ => 0)
        case atStart => exact ⟨0, rfl, Nat.zero_le _, OwnS.nil _ _, Below.refl _ _⟩
        case round =>
          obtain ⟨j, rfl, hj, how, hbi⟩ := hrel
          have HOW := Lib.hid how
          have HBI := Lib.hid hbi
          have HBW := Lib.hid (HB1.out.trans (hbi.mono HB1.out.size))
          obtain ⟨AO, cO, hv⟩ := how.form
          have hml : (L6.marked (xl.take j)).length = j := by rw [L6.marked_len, List.length_take]; omega
          rw [hml] at hv
          subst hv
          have HML := Lib.hid hml
          clear how hbi p0 p1 p2 hml
          by_cases hjl : j < xl.length
          · have hjl' : (j : Int) < (xl.length : Int) := by omega
            have hwj : IntKind.i64.wrap ((j : Int) + 1) = (j : Int) + 1 := by have := HFX.out.1.1; simp only at this; rw [IntKind.wrap_i64]; omega
            obtain ⟨gl, ofl, cl, e, hgl, hcl⟩ := HR1.out.at hjl
            injection e with e1 e2 e3
            subst e1 e3
            have hcr := (HBW.out.cell (p := ⟨gl, ofl + j, none⟩) hgl).trans hcl
            have HJL := Lib.hid hjl
            have HMT := Lib.hid (L6.marked_take hjl)
            have hzl : xl.length ≤ 1000000000 := HFX.out.1.1
            have HL1 := Lib.hid (show (j + 1) * 16 ≤ 140737488355328 from by omega)
            have HL2 := Lib.hid (show j + 1 ≤ maxLen from by unfold maxLen; omega)
            have hyl : (xl.getD j []).length ≤ 1000000000 := HFX.out.1.2 _ (by rw [List.getD, List.getElem?_eq_getElem hjl]; exact List.getElem_mem hjl)
            clear hcl hjl hzl
            generalize xl.getD j [] = y at *
            have hcat : ¬ 9223372036854775807 < y.length + 1 := by omega
            clear hyl
            have hal : Below wr.heap.size wr (wr.alloc (.cells #[.string ((⟨y.toArray⟩ : ByteArray) ++ (⟨#[58]⟩ : ByteArray))] 9)) := (Below.refl _ _).alloc (Nat.le_refl _) _
            have HOWA := Lib.hid ((HOW.out.kept hal).row HML.out)
            have HSA := Lib.hid (show Src Tryd.prog 1 39 (.slice (some ⟨wr.heap.size, 0, none⟩) 1 1) 1 [.string ((⟨y.toArray⟩ : ByteArray) ++ (⟨#[58]⟩ : ByteArray))] (wr.alloc (.cells #[.string ((⟨y.toArray⟩ : ByteArray) ++ (⟨#[58]⟩ : ByteArray))] 9)) from by rw [show (⟨y.toArray⟩ : ByteArray) ++ (⟨#[58]⟩ : ByteArray) = ⟨(y ++ [58]).toArray⟩ from app_eq y [58]]; exact src_one wr (y ++ [58]))
            have HBA := Lib.hid (HBI.out.trans (hal.mono HBI.out.size))
            have HZ := Lib.hid HBA.out.size
            clear hal
            go_wp2_with (at_builtin; refine wpList_appendRB rfl _ _ _ _ rfl lsrt (by decide) w1.heap.size _ rfl j (L6.sv (L6.marked (xl.take j))) HOWA.out _ rfl 1 [.string ((⟨y.toArray⟩ : ByteArray) ++ (⟨#[58]⟩ : ByteArray))] HSA.out HL1.out HL2.out HZ.out ?_; intro v3 w3 ho3 hb3 _ _; have HO3 := Lib.hid ho3; have HB3 := Lib.hid (HBA.out.trans hb3); obtain ⟨A3, c3, rfl⟩ := (Rd.of_own ho3).form; clear ho3 hb3)
            go_roundw
            case rel =>
              refine ⟨j + 1, by simp, HJL.out, ?_, HB3.out⟩
              rw [HMT.out]
              have := HO3.out
              rw [show (⟨y.toArray⟩ : ByteArray) ++ (⟨#[58]⟩ : ByteArray) = ⟨(y ++ [58]).toArray⟩ from app_eq y [58]] at this
              exact OwnS.snoc HML.out this
            case measure => have := HJL.out; simp; omega
          · have hle : (xl.length : Int) ≤ (j : Int) := by omega
            obtain rfl : j = xl.length := by omega
            have HTK := Lib.hid (show xl.take xl.length = xl from List.take_of_length_le (Nat.le_refl _))
            rw [HTK.out] at HOW
            have hk2 := HK1.out.kept HBI.out
            have p0 := hk2.cell 0
            have p1 := hk2.cell 1
            have p2 := hk2.cell 2
            have HK2 := Lib.hid hk2
            have HR2W := Lib.hid (HR2.out.kept HBW.out)
            have HFF := HFX.out
            have hfw : (L6.lineWords ⟨xl, xw, xa⟩).length ≤ 300000001 := by have := L6.lineWords_len ⟨xl, xw, xa⟩; simp only at this; have hwx := HWX.out; unfold L6.lweight at hwx; simp only at hwx; omega
            have hfs : L6.tsum (L6.lineWords ⟨xl, xw, xa⟩) ≤ 400000000 := by have := L6.lineWords_sum ⟨xl, xw, xa⟩; simp only at this; have hwx := HWX.out; unfold L6.lweight at hwx; simp only at hwx; omega
            have hjn := L6.join_len (L6.lineWords ⟨xl, xw, xa⟩)
            have htl : (L6.text (ls.take k)).length ≤ 200000000 := by have := L6.text_len (ls.take k); have := L6.weight_take ls k; have := HW.out; omega
            have CJ := Lib.hid (fun v W (h : RdS W v (L6.lineWords ⟨xl, xw, xa⟩)) => ljoin_any v _ W h (by omega))
            have HTX := Lib.hid (show L6.lineText ⟨xl, xw, xa⟩ = Lib.join (L6.lineWords ⟨xl, xw, xa⟩) [32] ++ [10] from rfl)
            have HLW := Lib.hid (show L6.lineWords ⟨xl, xw, xa⟩ = L6.marked xl ++ (if xw = [] then [] else [xw]) ++ xa from rfl)
            have CWR := Lib.hid (fun W (h : Bd w.heap.size w.heap.size (L6.text (ls.take k)) W) hb => bwrite_any w.heap.size w.heap.size (L6.text (ls.take k)) (Lib.join (L6.lineWords ⟨xl, xw, xa⟩) [32]) W h (by omega) hb)
            have CBY := Lib.hid (fun W (h : Bd w.heap.size w.heap.size (L6.text (ls.take k) ++ Lib.join (L6.lineWords ⟨xl, xw, xa⟩) [32]) W) hb => bbyte_any w.heap.size w.heap.size _ 10 W h (by rw [List.length_append]; omega) hb)
            have hla : xl.length + 1 + xa.length ≤ 300000001 := by have hwx := HWX.out; unfold L6.lweight at hwx; simp only at hwx; omega
            have HLA := Lib.hid hla
            have HML2 := Lib.hid (L6.marked_len xl)
            clear hk2 HFF hfw hfs hjn htl hle hla
            generalize Lib.join (L6.lineWords ⟨xl, xw, xa⟩) [32] = J at *
            by_cases hxw : xw = []
            · subst hxw
              have HRD := Lib.hid (fun v W (h : W.ownsRow w1.heap.size 9 1 v (xl.length + xa.length) (L6.sv (L6.marked xl) ++ L6.sv xa)) => show RdS W v (L6.lineWords ⟨xl, [], xa⟩) from by
                rw [HLW.out, if_pos rfl, List.append_nil]
                exact (OwnS.many HML2.out rfl h).rd)
              have HOWA := Lib.hid (HOW.out.row HML2.out)
              have HSA := Lib.hid (src_texts HR2W.out)
              have HL3 := Lib.hid (show (xl.length + xa.length) * 16 ≤ 140737488355328 from by have := HLA.out; omega)
              have HL4 := Lib.hid (show xl.length + xa.length ≤ maxLen from by have := HLA.out; unfold maxLen; omega)
              have HZ := Lib.hid HBI.out.size
              clear HFX HWX
              go_wp2_with (first | (at_builtin; refine wpList_appendRB rfl _ _ _ _ rfl lsrt (by decide) w1.heap.size _ rfl xl.length (L6.sv (L6.marked xl)) HOWA.out _ rfl xa.length (L6.sv xa) HSA.out HL3.out HL4.out HZ.out ?_; intro v4 w4 ho4 hb4 _ _; have HO4 := Lib.hid ho4; have HI4 := Lib.hid (HBI.out.trans hb4); have H4 := Lib.hid (HB1.out.trans (HI4.out.mono HB1.out.size)); obtain ⟨A4, c4, rfl⟩ := (Rd.of_own ho4).form; clear ho4 hb4) | (go_at_call 58; refine (CJ.out _ _ (HRD.out _ _ HO4.out)).mono ?_; rintro e w5 ⟨rfl, hb5⟩; have H5 := Lib.hid (H4.out.trans (hb5.mono H4.out.size))) | (go_at_call 57; refine (CWR.out _ (HBD.out.kept H5.out) (Nat.le_trans HBR.out.size H5.out.size)).mono ?_; rintro e w6 ⟨rfl, hd6, hb6⟩; have H6 := Lib.hid ((HBR.out.trans (H5.out.mono HBR.out.size)).trans hb6)) | (go_at_call 59; refine (CBY.out _ hd6.bd H6.out.size).mono ?_; rintro e w7 ⟨rfl, hd7, hb7⟩))
              go_roundw
              case rel => exact ⟨k + 1, by simp, HLT.out, by rw [HX.out, L6.text_snoc, HTX.out, ← List.append_assoc]; exact hd7.bd, H6.out.trans hb7, HRN.out⟩
              case measure => have := HLT.out; simp; omega
            · have hne : (xw == ([] : List UInt8)) = false := by simpa using hxw
              have HRD := Lib.hid (fun v W (h : W.ownsRow w1.heap.size 9 1 v (xl.length + 1 + xa.length) (L6.sv (L6.marked xl ++ [xw]) ++ L6.sv xa)) => show RdS W v (L6.lineWords ⟨xl, xw, xa⟩) from by
                rw [HLW.out, if_neg hxw]
                exact (OwnS.many (by rw [List.length_append, HML2.out]; rfl) rfl h).rd)
              have hal : Below wr.heap.size wr (wr.alloc (.cells #[.string ⟨xw.toArray⟩] 9)) := (Below.refl _ _).alloc (Nat.le_refl _) _
              have HOWA := Lib.hid ((HOW.out.kept hal).row HML2.out)
              have HSA := Lib.hid (src_one wr xw)
              have HBA := Lib.hid (HBI.out.trans (hal.mono HBI.out.size))
              have HZ := Lib.hid HBA.out.size
              have HL1 := Lib.hid (show (xl.length + 1) * 16 ≤ 140737488355328 from by have := HLA.out; omega)
              have HL2 := Lib.hid (show xl.length + 1 ≤ maxLen from by have := HLA.out; unfold maxLen; omega)
              have HL3 := Lib.hid (show (xl.length + 1 + xa.length) * 16 ≤ 140737488355328 from by have := HLA.out; omega)
              have HL4 := Lib.hid (show xl.length + 1 + xa.length ≤ maxLen from by have := HLA.out; unfold maxLen; omega)
              clear HFX HWX hal hxw
              go_wp2_with (first | (at_builtin; refine wpList_appendRB rfl _ _ _ _ rfl lsrt (by decide) w1.heap.size _ rfl xl.length (L6.sv (L6.marked xl)) HOWA.out _ rfl 1 [.string ⟨xw.toArray⟩] HSA.out HL1.out HL2.out HZ.out ?_; intro v3 w3 ho3 hb3 _ _; have HO3 := Lib.hid ((OwnS.snoc HML2.out ho3).row (n := xl.length + 1) (by rw [List.length_append, HML2.out]; rfl)); have HB3 := Lib.hid (HBA.out.trans hb3); have HZ3 := Lib.hid HB3.out.size; have hbb3 := HB1.out.trans (HB3.out.mono HB1.out.size); have HSA3 := Lib.hid (src_texts (HR2.out.kept hbb3)); obtain ⟨A3, c3, rfl⟩ := (Rd.of_own ho3).form; have hk3 := HK1.out.kept HB3.out; have s0 := hk3.cell 0; have s1 := hk3.cell 1; have s2 := hk3.cell 2; clear ho3 hb3) | (at_builtin; refine wpList_appendRB rfl _ _ _ _ rfl lsrt (by decide) w1.heap.size _ rfl (xl.length + 1) (L6.sv (L6.marked xl ++ [xw])) HO3.out _ rfl xa.length (L6.sv xa) HSA3.out HL3.out HL4.out HZ3.out ?_; intro v4 w4 ho4 hb4 _ _; have HO4 := Lib.hid ho4; have HI4 := Lib.hid (HB3.out.trans hb4); have H4 := Lib.hid (HB1.out.trans (HI4.out.mono HB1.out.size)); obtain ⟨A4, c4, rfl⟩ := (Rd.of_own ho4).form; clear ho4 hb4) | (go_at_call 58; refine (CJ.out _ _ (HRD.out _ _ HO4.out)).mono ?_; rintro e w5 ⟨rfl, hb5⟩; have H5 := Lib.hid (H4.out.trans (hb5.mono H4.out.size))) | (go_at_call 57; refine (CWR.out _ (HBD.out.kept H5.out) (Nat.le_trans HBR.out.size H5.out.size)).mono ?_; rintro e w6 ⟨rfl, hd6, hb6⟩; have H6 := Lib.hid ((HBR.out.trans (H5.out.mono HBR.out.size)).trans hb6)) | (go_at_call 59; refine (CBY.out _ hd6.bd H6.out.size).mono ?_; rintro e w7 ⟨rfl, hd7, hb7⟩))
              go_roundw
              case rel => exact ⟨k + 1, by simp, HLT.out, by rw [HX.out, L6.text_snoc, HTX.out, ← List.append_assoc]; exact hd7.bd, H6.out.trans hb7, HRN.out⟩
              case measure => have := HLT.out; simp; omega
    · have hle : (ls.length : Int) ≤ (k : Int) := by omega
      have HT := Lib.hid (show ls.take k = ls from List.take_of_length_le (by omega))
      have HR := Lib.hid (HYES.out (fun j hj => HRI.out j hj (by omega)))
      have CS := Lib.hid (Tryd.Builder_String_any w.heap.size w.heap.size (L6.text (ls.take k)) wr HBD.out HBR.out.size)
      go_wp2_with (go_at_call 60; refine CS.out.mono ?_; rintro e w1 ⟨rfl, hb1⟩)
      go_ret2
      exact ⟨lret_si (by rw [HR.out, HT.out]) (by rw [HR.out]; rfl), HBR.out.trans hb1⟩
end Go.Proofs.YtfafdkbnmfpbmaaDoor

/- What comes in, opened, with the form's own reach at every depth. Of no program. -/
namespace Go.Proofs.YtfafdkbnmfpbmaaDoor.Kit
open Go.RowKit Go.ChangeShapes Go.WideShapes Go.Deep
set_option linter.unusedVariables false
set_option linter.unusedSimpArgs false

/-- Whatever is read of d takes no more than the reach. -/
def Fits {H : Type} (P : Program) (t : TypeId) (d : DataW H) : Prop := ∀ m ∈ d.weights P t, m ≤ reachBytes
theorem Fits.of_each {H : Type} {P : Program} {ts : List TypeId} {ds : List (DataW H)} (h : (DataW.weightsEach P ts ds).all (· ≤ reachBytes) = true) {j : Nat} {t : TypeId} {d : DataW H} (ht : ts[j]? = some t) (hd : ds[j]? = some d) : Fits P t d := fun m hm => by
  have := List.all_eq_true.1 h _ (DataW.weights_mem_each ht hd m hm)
  simpa using this
theorem weightsAll_mem {H : Type} {P : Program} {e : TypeId} {d : DataW H} {m : Nat} (hm : m ∈ d.weights P e) : ∀ {l : List (DataW H)}, d ∈ l → m ∈ DataW.weightsAll P e l
  | x :: r, h => by
    simp only [DataW.weightsAll, List.mem_append]
    rcases List.mem_cons.1 h with rfl | h
    · exact .inl hm
    · exact .inr (weightsAll_mem hm h)
theorem Fits.elem {H : Type} {P : Program} {t e : TypeId} (ht : P.underlying t = some (.slice e)) {elems spare : List (DataW H)} (h : Fits P t (.slice elems spare)) {d : DataW H} (hd : d ∈ elems) : Fits P e d := fun m hm =>
  h m (by simp only [DataW.weights, ht]; exact List.mem_cons_of_mem _ (List.mem_append_left _ (weightsAll_mem hm hd)))
theorem Fits.row {H : Type} {P : Program} {t e : TypeId} (ht : P.underlying t = some (.slice e)) {elems spare : List (DataW H)} (h : Fits P t (.slice elems spare)) : (elems.length + spare.length) * P.bytesOf e ≤ reachBytes :=
  h _ (by simp [DataW.weights, ht])
theorem Fits.text {H : Type} {P : Program} {t : TypeId} {b : List UInt8} (h : Fits (H := H) P t (.lit (.string b))) : b.length ≤ reachBytes := h _ (by simp [DataW.weights])
theorem Fits.field {H : Type} {P : Program} {t : TypeId} {fs : Array Field} (ht : P.underlying t = some (.struct fs)) {parts : List (DataW H)} (h : Fits P t (.agg parts)) {j : Nat} {f : Field} {d : DataW H} (hf : fs[j]? = some f) (hd : parts[j]? = some d) : Fits P f.type d := fun m hm =>
  h m (by
    simp only [DataW.weights, ht]
    exact DataW.weights_mem_each (j := j) (by rw [List.getElem?_map, Array.getElem?_toList, hf]; rfl) hd m hm)
/-- The cells of a struct whose fields are of one cell each, with the reach. -/
theorem struct_fieldsW {H : Type} {enc : TypeId × Value → H} {P : Program} {W : World} {base : Nat} {spare : Nat → Bool} {held : Bool} {e : TypeId} {fs : Array Field} (he : P.underlying e = some (.struct fs)) (hone : oneCellFields P fs = true) (hC : P.cellsOf e = fs.size)
    {n : Nat} {cs : List Value} {y : DataW H × List MemPlace} (h : DataW.trod enc P W base spare held n e cs = some y) (hl : cs.length = fs.size) (hw : Fits P e y.1) :
    ∃ m, ∀ (j : Nat) (f : Field), fs[j]? = some f → ∃ (v : Value) (y' : DataW H × List MemPlace), cs[j]? = some v ∧ DataW.trod enc P W base spare held m f.type [v] = some y' ∧ Fits P f.type y'.1 := by
  obtain ⟨ys, n', hx, hy, hm, hyl, hf⟩ := DataW.trod_struct he h
  refine ⟨n', fun j f hj => ?_⟩
  obtain ⟨ho, hk⟩ := hone_of hone j f hj
  have hjl : j < fs.size := (Array.getElem?_eq_some_iff.1 hj).1
  have h1 := hf j f hj
  rw [ho, hk] at h1
  have hv : cs[j]? = some (cs[j]'(by omega)) := List.getElem?_eq_getElem (by omega)
  have hone' : (cs.drop j).take 1 = [cs[j]'(by omega)] := by
    rw [List.drop_eq_getElem_cons (by omega)]
    rfl
  rw [hone'] at h1
  have hys : ys[j]? = some (ys[j]'(by omega)) := List.getElem?_eq_getElem (by omega)
  rw [hy] at hw
  exact ⟨_, _, hv, h1.trans hys, hw.field he hj (by rw [List.getElem?_map, hys]; rfl)⟩
/-- A slice of many-celled elements, as a cell of what comes in tells it: it reads as a list of what its elements read as; with the reach. -/
theorem open_rowsW {α : Type} (f : α → List Value) (k : Nat) (hk : 0 < k) (hf : ∀ x, (f x).length = k) (Q : α → Prop) {H : Type} {enc : TypeId × Value → H} {P : Program} {W : World} {t e : TypeId}
    (ht : P.underlying t = some (.slice e)) (hC : P.cellsOf e = k) {spare : Nat → Bool} (hsp : ∀ n, spare n = true)
    (hel : ∀ n cs y, cs.length = k → DataW.trod enc P W 0 spare true n e cs = some y → Fits P e y.1 → ∃ x, cs = f x ∧ Q x)
    {v : Value} {fuel : Nat} {y : DataW H × List MemPlace} (hfu : DataW.trod enc P W 0 spare true fuel t [v] = some y) (hw : Fits P t y.1) :
    ∃ xs : List α, Rd W k v xs.length (xs.flatMap f) ∧ (∀ x ∈ xs, Q x) ∧ xs.length * P.bytesOf e ≤ reachBytes := by
  rcases open_slice ht hfu with ⟨hcs, _⟩ | ⟨a, len, cap, m, n, D, Pl, hcs, _, hl, hm, hmm, hxe, hx⟩
  · simp at hcs
    subst hcs
    exact ⟨[], Rd.nil _ _, fun x hx => by simp at hx, by simp⟩
  · simp at hcs
    subst hcs
    rw [hsp, if_pos rfl] at hmm
    subst hmm
    rw [hC] at hx
    rw [hxe] at hw
    have hex : ∀ i, i < len → ∃ x, (∀ j u, (f x)[j]? = some u → W.cell? ((a.add (i * k)).add j) = some u) ∧ Q x := by
      intro i hi
      obtain ⟨cs', hc, ht'⟩ := hx i (by omega)
      obtain ⟨_, hcl, hat⟩ := World.cells?_some hc
      obtain ⟨x, rfl, hq⟩ := hel _ _ _ hcl ht' (hw.elem ht (List.mem_map.2 ⟨i, by simpa using hi, rfl⟩))
      refine ⟨x, fun j u hu => ?_, hq⟩
      have hj : j < k := by have := (List.getElem?_eq_some_iff.1 hu).1; rw [hf] at this; exact this
      rw [hat j hj]
      exact hu
    have hall : ∀ n', n' ≤ len → ∃ xs : List α, xs.length = n' ∧ ∀ i x, xs[i]? = some x → (∀ j u, (f x)[j]? = some u → W.cell? ((a.add (i * k)).add j) = some u) ∧ Q x := by
      intro n'
      induction n' with
      | zero => exact fun _ => ⟨[], rfl, fun i x hx => by simp at hx⟩
      | succ n' ih =>
        intro hn'
        obtain ⟨xs, hxl, hxs⟩ := ih (by omega)
        obtain ⟨x, hx1, hx2⟩ := hex n' (by omega)
        refine ⟨xs ++ [x], by simp [hxl], fun i y hy => ?_⟩
        by_cases hi : i < n'
        · rw [List.getElem?_append_left (by omega)] at hy
          exact hxs i y hy
        · rw [List.getElem?_append_right (by omega)] at hy
          have hi' : i - xs.length = 0 := by
            have := (List.getElem?_eq_some_iff.1 hy).1
            simp at this; omega
          rw [hi'] at hy
          simp at hy
          subst hy
          obtain rfl : i = n' := by omega
          exact ⟨hx1, hx2⟩
    obtain ⟨xs, hxl, hxs⟩ := hall len (Nat.le_refl _)
    refine ⟨xs, ⟨flat_length f k hf xs, some a, _, by rw [hxl], by omega, hm, fun hn => ?_⟩, fun x hx => ?_, ?_⟩
    · obtain ⟨g, off, spot⟩ := a
      obtain ⟨x0, hx0⟩ : ∃ x0, xs[0]? = some x0 := ⟨xs[0], List.getElem?_eq_getElem hn⟩
      have h00 := (hxs 0 x0 hx0).1
      obtain ⟨u0, hu0⟩ : ∃ u0, (f x0)[0]? = some u0 := ⟨(f x0)[0]'(by rw [hf]; exact hk), List.getElem?_eq_getElem _⟩
      have c0 := h00 0 u0 hu0
      have hs : spot = none := by
        cases spot with
        | none => rfl
        | some s =>
          simp only [Nat.zero_mul, Addr.add, if_true, World.cell?] at c0
          split at c0 <;> simp at c0
      subst hs
      have hg : g < W.heap.size := by
        have := World.block_lt_of_cell? W _ c0
        simpa [addr_add] using this
      refine ⟨g, off, rfl, hg, fun j u hu => ?_⟩
      have hjl : j < xs.length * k := by have := (List.getElem?_eq_some_iff.1 hu).1; rw [flat_length f k hf] at this; exact this
      have hq : j / k < xs.length := (Nat.div_lt_iff_lt_mul hk).2 hjl
      have hr : j % k < k := Nat.mod_lt _ hk
      have ej : j = j / k * k + j % k := by rw [Nat.mul_comm]; exact (Nat.div_add_mod j k).symm
      obtain ⟨x, hxx⟩ : ∃ x, xs[j / k]? = some x := ⟨xs[j / k], List.getElem?_eq_getElem hq⟩
      have := (hxs _ x hxx).1 (j % k) u (by
        rw [ej, flat_at f k hf xs (j / k) (j % k) x hq hr] at hu
        rw [← hu]
        simp [List.getD, hxx])
      rw [addr_add, addr_add, Nat.add_assoc, ← ej] at this
      exact this
    · obtain ⟨i, hi, rfl⟩ := List.mem_iff_getElem.1 hx
      exact (hxs i _ (List.getElem?_eq_getElem hi)).2
    · have := hw.row ht
      simp only [List.length_map, List.length_range] at this
      rw [hxl]
      exact Nat.le_trans (Nat.mul_le_mul_right _ (Nat.le_add_right _ _)) this
end Go.Proofs.YtfafdkbnmfpbmaaDoor.Kit

/- Lines that come in. -/
namespace Go.Proofs.YtfafdkbnmfpbmaaDoor
open Go.RowKit Kit Go.ChangeShapes Go.WideShapes Go.Deep
set_option linter.unusedVariables false
set_option linter.unusedSimpArgs false

/-- A list of texts that is no greater than the reach. -/
def L6.Texts (l : List (List UInt8)) : Prop := l.length ≤ 140737488351232 ∧ ∀ x ∈ l, x.length ≤ 140737488351232
theorem open_texts {H : Type} {enc : TypeId × Value → H} {w : World} {v : Value} {fuel : Nat} {y : DataW H × List MemPlace}
    (h : DataW.trod enc Tryd.prog w 0 (fun _ => true) true fuel 39 [v] = some y) (hw : Fits Tryd.prog 39 y.1) : ∃ l, RdS w v l ∧ L6.Texts l := by
  obtain ⟨xs, h1, h2, h3⟩ := open_rowsW (spare := fun _ => true) (fun x : List UInt8 => [Value.string ⟨x.toArray⟩]) 1 (by decide) (fun _ => rfl) (fun x => x.length ≤ 140737488351232) Tryd.underlying39 (by kernel_rfl) (fun _ => rfl)
    (fun n cs y hl ht hf => by
      obtain ⟨s, rfl, hy, _⟩ := DataW.trod_string Tryd.underlying9 ht
      rw [hy] at hf
      exact ⟨s.data.toList, by simp, hf.text⟩) h hw
  refine ⟨xs, ?_, ?_, h2⟩
  · unfold RdS L6.sv
    rw [show xs.map (fun x => Value.string ⟨x.toArray⟩) = xs.flatMap fun x => [Value.string ⟨x.toArray⟩] from by
      clear h1 h2 h3
      induction xs with
      | nil => rfl
      | cons x t ih => simp [ih]]
    exact h1
  · rw [show Tryd.prog.bytesOf 9 = 16 from by kernel_rfl] at h3
    simp only [reachBytes] at h3
    omega
/-- A line that comes in, with the values of its slices. -/
structure L6.In where
  vl : Value
  va : Value
  line : L6.Line
def L6.In.cells (x : L6.In) : List Value := [x.vl, .string ⟨x.line.word.toArray⟩, x.va]
def L6.Line.Small (x : L6.Line) : Prop := L6.Texts x.labels ∧ x.word.length ≤ 140737488351232 ∧ L6.Texts x.args
def L6.In.ok (w : World) (x : L6.In) : Prop := RdS w x.vl x.line.labels ∧ RdS w x.va x.line.args ∧ x.line.Small
set_option maxRecDepth 100000 in
theorem open_line {H : Type} {enc : TypeId × Value → H} {w : World} {n : Nat} {cs : List Value} {y : DataW H × List MemPlace} (hl : cs.length = 3)
    (ht : DataW.trod enc Tryd.prog w 0 (fun _ => true) true n 41 cs = some y) (hw : Fits Tryd.prog 41 y.1) : ∃ x : L6.In, cs = x.cells ∧ x.ok w := by
  obtain ⟨m, hf⟩ := struct_fieldsW Tryd.underlying41 (by kernel_rfl) (by kernel_rfl) ht hl hw
  obtain ⟨v0, y0, e0, h0, w0⟩ := hf 0 _ rfl
  obtain ⟨v1, y1, e1, h1, w1⟩ := hf 1 _ rfl
  obtain ⟨v2, y2, e2, h2, w2⟩ := hf 2 _ rfl
  obtain ⟨ll, r0, t0⟩ := open_texts h0 w0
  obtain ⟨la, r2, t2⟩ := open_texts h2 w2
  obtain ⟨s, k1, hy, _⟩ := DataW.trod_string Tryd.underlying9 h1
  rw [hy] at w1
  have hs := w1.text
  simp only [List.cons.injEq, and_true] at k1
  subst k1
  match cs, hl with
  | [c0, c1, c2], _ =>
    simp at e0 e1 e2
    subst e0 e1 e2
    exact ⟨⟨c0, c2, ⟨ll, s.data.toList, la⟩⟩, by simp [L6.In.cells], r0, r2, t0, hs, t2⟩
theorem lines_of_in {w : World} : ∀ {xs : List L6.In}, (∀ x ∈ xs, x.ok w) → LinesRd w (xs.map (·.line)) (xs.flatMap L6.In.cells)
  | [], _ => rfl
  | x :: t, h => ⟨x.vl, x.va, t.flatMap L6.In.cells, rfl, (h x (by simp)).1, (h x (by simp)).2.1, lines_of_in fun y hy => h y (by simp [hy])⟩
/-- Lines that come in. -/
def L6.Small (ls : List L6.Line) : Prop := ls.length ≤ 2199023255552 ∧ ∀ x ∈ ls, x.Small
set_option maxRecDepth 100000 in
theorem open_lines_cell {H : Type} {enc : TypeId × Value → H} {w : World} {v : Value} {fuel : Nat} {y : DataW H × List MemPlace}
    (h : DataW.trod enc Tryd.prog w 0 (fun _ => true) true fuel 22 [v] = some y) (hw : Fits Tryd.prog 22 y.1) : ∃ ls, RdL w v ls ∧ L6.Small ls := by
  obtain ⟨xs, h1, h2, h3⟩ := open_rowsW (spare := fun _ => true) L6.In.cells 3 (by decide) (fun _ => rfl) (L6.In.ok w) Tryd.underlying22 (by kernel_rfl) (fun _ => rfl) (fun n cs y hl ht hf => open_line hl ht hf) h hw
  refine ⟨xs.map (·.line), ⟨xs.flatMap L6.In.cells, by simpa using h1, lines_of_in h2⟩, ?_, fun x hx => ?_⟩
  · rw [show Tryd.prog.bytesOf 41 = 64 from by kernel_rfl] at h3
    simp only [reachBytes] at h3
    simp only [List.length_map]
    omega
  · obtain ⟨y, hy, rfl⟩ := List.mem_map.1 hx
    exact (h2 y hy).2.2
set_option maxRecDepth 100000 in
theorem open_lines {H : Type} {enc : TypeId × Value → H} {w : World} {b0 : Nat} {v : Value} {d : DataW H} {p : List MemPlace} (hv : Value.okWide Tryd.prog w .any b0 22 v)
    (h : DataW.Trod enc Tryd.prog w 0 (fun _ => true) true 22 v d p) (hw : Fits Tryd.prog 22 d) : ∃ ls, RdL w v ls ∧ L6.Small ls := by
  obtain ⟨a0, len, cap, rfl⟩ := okWide_slice Tryd.underlying22 hv
  obtain ⟨fuel, hf⟩ := h
  exact open_lines_cell (by simpa [Value.cells] using hf) hw
end Go.Proofs.YtfafdkbnmfpbmaaDoor

/- Are lines light? What that bounds. -/
namespace Go.Proofs.YtfafdkbnmfpbmaaDoor
open Go.RowKit Kit
set_option linter.unusedVariables false
set_option linter.unusedSimpArgs false

theorem L6.weight_snoc {ls : List L6.Line} {k : Nat} (hk : k < ls.length) : L6.weight (ls.take (k + 1)) = L6.weight (ls.take k) + L6.lweight ls[k] := by
  rw [lines_take hk]
  simp only [L6.weight, List.map_append, List.sum_append, List.map_cons, List.map_nil, List.sum_cons, List.sum_nil, Nat.add_zero]
def LightPost (w : World) (ls : List L6.Line) (e : Ending) (w' : World) : Prop := ∃ b : Bool, e = .returned (.bool b) ∧ (b = true → L6.weight ls ≤ 3000) ∧ Below w.heap.size w w'
set_option maxRecDepth 100000 in
set_option maxHeartbeats 4000000 in
theorem llight_any (v : Value) (ls : List L6.Line) (w : World) (h : RdL w v ls) (hs : L6.Small ls) :
    Calls Tryd.prog 9 #[v] w (LightPost w ls) := by
  have HH := Lib.hid h
  have HS := Lib.hid hs
  have HLL := Lib.hid hs.1
  obtain ⟨A, c, rfl⟩ := h.form
  clear h hs
  go_enter Tryd.func9, Tryd.ntmps9
  go_wp2_with fail
  go_loopw [3, 4] (fun a i wr => ∃ (L : Int) (k n : Nat), a = .int .i64 L ∧ i = .int .i64 (k : Int) ∧ wr = w.drewN n ∧ k ≤ ls.length ∧ -1000000000000000 ≤ L ∧ L ≤ 3000 ∧ (0 ≤ L → L = 3000 - (L6.weight (ls.take k) : Nat))) (fun _ i _ => match i with | .int _ n => ls.length - n.toNat | _ => 0)
  case atStart => exact ⟨3000, 0, 0, rfl, rfl, rfl, Nat.zero_le _, by omega, by omega, fun _ => by simp [L6.weight]⟩
  case round =>
    obtain ⟨L, k, n, rfl, rfl, rfl, hk, hLlo, hLhi, hL⟩ := hrel
    have HL0 := Lib.hid hL
    clear hL
    by_cases hz : 0 ≤ L
    · by_cases hlt : k < ls.length
      · have hlt' : (k : Int) < (ls.length : Int) := by omega
        have hw1 : IntKind.i64.wrap ((k : Int) + 1) = (k : Int) + 1 := by have := HLL.out; rw [IntKind.wrap_i64]; omega
        obtain ⟨g, off, c', vl, va, e, hg, c0, c1, c2, r1, r2⟩ := HH.out.at hlt
        injection e with e1 e2 e3
        subst e1 e3
        have HWS := Lib.hid (L6.weight_snoc hlt)
        have HSM := Lib.hid (HS.out.2 _ (List.getElem_mem hlt))
        have HLE := Lib.hid (HL0.out hz)
        have HLT := Lib.hid hlt
        have HR1 := Lib.hid r1
        have HR2 := Lib.hid r2
        clear r1 r2 HL0
        generalize hX : ls[k] = X at *
        clear hX hlt
        obtain ⟨xl, xw, xa⟩ := X
        dsimp only at HR1 HR2 c1
        unfold L6.Line.Small at HSM
        dsimp only at HSM
        obtain ⟨B1, cc1, rfl⟩ := HR1.out.form
        obtain ⟨B2, cc2, rfl⟩ := HR2.out.form
        have s1 := HSM.out.1.1
        have s2 := HSM.out.2.1
        have s3 := HSM.out.2.2.1
        have w1 : IntKind.i64.wrap (L - 4) = L - 4 := by rw [IntKind.wrap_i64]; omega
        have w2 : IntKind.i64.wrap (L - 4 - (xw.length : Int)) = L - 4 - (xw.length : Int) := by rw [IntKind.wrap_i64]; omega
        have w3 : IntKind.i64.wrap (L - 4 - (xw.length : Int) - (xl.length : Int)) = L - 4 - (xw.length : Int) - (xl.length : Int) := by rw [IntKind.wrap_i64]; omega
        obtain ⟨M, hM⟩ : ∃ M : Int, M = L - 4 - (xw.length : Int) - (xl.length : Int) - (xa.length : Int) := ⟨_, rfl⟩
        have w4 : IntKind.i64.wrap (L - 4 - (xw.length : Int) - (xl.length : Int) - (xa.length : Int)) = M := by rw [IntKind.wrap_i64]; omega
        have hMlo : -1000000000000000 ≤ M := by omega
        have hMhi : M ≤ 3000 := by omega
        have HM := Lib.hid (show M = 3000 - ((L6.weight (ls.take k) : Nat) : Int) - 4 - (xw.length : Int) - (xl.length : Int) - (xa.length : Int) from by have := HLE.out; omega)
        have HWX := Lib.hid (show (L6.weight (ls.take (k + 1)) : Nat) = L6.weight (ls.take k) + (4 + xw.length + xl.length + xa.length + L6.tsum xl + L6.tsum xa) from HWS.out)
        clear hM s1 s2 s3
        go_wp2_with fail
        go_quiet (fail)
        go_wp2_with fail
        clear w1 w2 w3 w4
        go_loopw [3, 5] (fun a i wr => ∃ (L : Int) (j n : Nat), a = .int .i64 L ∧ i = .int .i64 (j : Int) ∧ wr = w.drewN n ∧ j ≤ xl.length ∧ -1000000000000000 ≤ L ∧ L ≤ 3000 ∧ (0 ≤ L → L = M - (L6.tsum (xl.take j) : Nat))) (fun _ i _ => match i with | .int _ n => xl.length - n.toNat | _ => 0)
        case atStart => exact ⟨_, 0, n + nq, rfl, rfl, by rw [World.drewN_drewN], Nat.zero_le _, by exact hMlo, by exact hMhi, fun hz => by simp [L6.tsum]⟩
        case round =>
          obtain ⟨L, j, n, rfl, rfl, rfl, hj, hLlo, hLhi, hL⟩ := hrel
          have HL := Lib.hid hL
          clear hL
          by_cases hjl : j < xl.length
          · have hjl' : (j : Int) < (xl.length : Int) := by omega
            by_cases hz : 0 ≤ L
            · obtain ⟨gl, ofl, cl, e, hgl, hcl⟩ := HR1.out.at hjl
              injection e with e1 e2 e3
              subst e1 e3
              have hmem : xl.getD j [] ∈ xl := by rw [List.getD, List.getElem?_eq_getElem hjl]; exact List.getElem_mem hjl
              have hyl := HSM.out.1.2 _ hmem
              have hfl := HSM.out.1.1
              have hwj : IntKind.i64.wrap ((j : Int) + 1) = (j : Int) + 1 := by rw [IntKind.wrap_i64]; omega
              have HJ := Lib.hid (show L6.tsum (xl.take (j + 1)) = L6.tsum (xl.take j) + (xl.getD j []).length from by rw [L6.take_snoc hjl, L6.tsum_app]; simp [L6.tsum])
              have HJL := Lib.hid hjl
              clear hmem hjl
              generalize xl.getD j [] = y at *
              have hwl : IntKind.i64.wrap (L - (y.length : Int)) = L - (y.length : Int) := by rw [IntKind.wrap_i64]; omega
              have HLE := Lib.hid (HL.out hz)
              go_wp2_with fail
              go_roundw
              case rel => exact ⟨L - (y.length : Int), j + 1, n, rfl, by simp, rfl, HJL.out, by omega, by omega, fun _ => by have := HLE.out; have := HJ.out; omega⟩
              case measure => have := HJL.out; simp; omega
            · have hz' : ¬ (0 : Int) ≤ L := hz
              go_wp2_with fail
              obtain ⟨P, hP⟩ : ∃ P : Int, P = 3000 - ((L6.weight (ls.take k) : Nat) : Int) - 4 - (xw.length : Int) - (xl.length : Int) - (xa.length : Int) - (L6.tsum xl : Nat) := ⟨_, rfl⟩
              have HPP : Hid (P = 3000 - ((L6.weight (ls.take k) : Nat) : Int) - 4 - (xw.length : Int) - (xl.length : Int) - (xa.length : Int) - (L6.tsum xl : Nat)) := Lib.hid hP
              clear hP
              go_loopw [3, 6] (fun a i wr => ∃ (L : Int) (j n : Nat), a = .int .i64 L ∧ i = .int .i64 (j : Int) ∧ wr = w.drewN n ∧ j ≤ xa.length ∧ -1000000000000000 ≤ L ∧ L ≤ 3000 ∧ (0 ≤ L → L = (P : Int) - (L6.tsum (xa.take j) : Nat))) (fun _ i _ => match i with | .int _ n => xa.length - n.toNat | _ => 0)
              case atStart => exact ⟨_, 0, _, rfl, rfl, rfl, Nat.zero_le _, by omega, by omega, fun hz0 => by omega⟩
              case round =>
                obtain ⟨L, j, n, rfl, rfl, rfl, hj, hLlo, hLhi, hL⟩ := hrel
                have HL := Lib.hid hL
                clear hL
                by_cases hjl : j < xa.length
                · have hjl' : (j : Int) < (xa.length : Int) := by omega
                  by_cases hz : 0 ≤ L
                  · obtain ⟨gl, ofl, cl, e, hgl, hcl⟩ := HR2.out.at hjl
                    injection e with e1 e2 e3
                    subst e1 e3
                    have hmem : xa.getD j [] ∈ xa := by rw [List.getD, List.getElem?_eq_getElem hjl]; exact List.getElem_mem hjl
                    have hyl := HSM.out.2.2.2 _ hmem
                    have hfl := HSM.out.2.2.1
                    have hwj : IntKind.i64.wrap ((j : Int) + 1) = (j : Int) + 1 := by rw [IntKind.wrap_i64]; omega
                    have HJ := Lib.hid (show L6.tsum (xa.take (j + 1)) = L6.tsum (xa.take j) + (xa.getD j []).length from by rw [L6.take_snoc hjl, L6.tsum_app]; simp [L6.tsum])
                    have HJL := Lib.hid hjl
                    clear hmem hjl
                    generalize xa.getD j [] = y at *
                    have hwl : IntKind.i64.wrap (L - (y.length : Int)) = L - (y.length : Int) := by rw [IntKind.wrap_i64]; omega
                    have HLE := Lib.hid (HL.out hz)
                    go_wp2_with fail
                    go_roundw
                    case rel => exact ⟨L - (y.length : Int), j + 1, n, rfl, by simp, rfl, HJL.out, by omega, by omega, fun _ => by have := HLE.out; have := HJ.out; omega⟩
                    case measure => have := HJL.out; simp; omega
                  · have hz' : ¬ (0 : Int) ≤ L := hz
                    go_wp2_with fail
                    go_roundw
                    case rel => exact ⟨L, k + 1, n, rfl, by simp, rfl, HLT.out, hLlo, hLhi, fun hh => by omega⟩
                    case measure => have := HLT.out; simp; omega
                · have hle : (xa.length : Int) ≤ (j : Int) := by omega
                  obtain rfl : j = xa.length := by omega
                  have HT := Lib.hid (show xa.take xa.length = xa from List.take_of_length_le (Nat.le_refl _))
                  go_wp2_with fail
                  go_roundw
                  case rel => exact ⟨L, k + 1, n, rfl, by simp, rfl, HLT.out, hLlo, hLhi, fun hh => by have := HL.out hh; rw [HT.out] at this; have := HPP.out; have := HWX.out; omega⟩
                  case measure => have := HLT.out; simp; omega
          · have hle : (xl.length : Int) ≤ (j : Int) := by omega
            obtain rfl : j = xl.length := by omega
            have HT := Lib.hid (show xl.take xl.length = xl from List.take_of_length_le (Nat.le_refl _))
            go_wp2_with fail
            have HLL2 := Lib.hid (fun hz => (HL.out hz).trans (by rw [HT.out, HM.out]))
            obtain ⟨P, hP⟩ : ∃ P : Int, P = 3000 - ((L6.weight (ls.take k) : Nat) : Int) - 4 - (xw.length : Int) - (xl.length : Int) - (xa.length : Int) - (L6.tsum xl : Nat) := ⟨_, rfl⟩
            have HPP : Hid (P = 3000 - ((L6.weight (ls.take k) : Nat) : Int) - 4 - (xw.length : Int) - (xl.length : Int) - (xa.length : Int) - (L6.tsum xl : Nat)) := Lib.hid hP
            rw [← hP] at HLL2
            clear hP
            go_loopw [3, 6] (fun a i wr => ∃ (L : Int) (j n : Nat), a = .int .i64 L ∧ i = .int .i64 (j : Int) ∧ wr = w.drewN n ∧ j ≤ xa.length ∧ -1000000000000000 ≤ L ∧ L ≤ 3000 ∧ (0 ≤ L → L = (P : Int) - (L6.tsum (xa.take j) : Nat))) (fun _ i _ => match i with | .int _ n => xa.length - n.toNat | _ => 0)
            case atStart => exact ⟨_, 0, _, rfl, rfl, rfl, Nat.zero_le _, by omega, by omega, fun hz => by have := HLL2.out hz; simp [L6.tsum]; omega⟩
            case round =>
              obtain ⟨L, j, n, rfl, rfl, rfl, hj, hLlo, hLhi, hL⟩ := hrel
              have HL := Lib.hid hL
              clear hL
              by_cases hjl : j < xa.length
              · have hjl' : (j : Int) < (xa.length : Int) := by omega
                by_cases hz : 0 ≤ L
                · obtain ⟨gl, ofl, cl, e, hgl, hcl⟩ := HR2.out.at hjl
                  injection e with e1 e2 e3
                  subst e1 e3
                  have hmem : xa.getD j [] ∈ xa := by rw [List.getD, List.getElem?_eq_getElem hjl]; exact List.getElem_mem hjl
                  have hyl := HSM.out.2.2.2 _ hmem
                  have hfl := HSM.out.2.2.1
                  have hwj : IntKind.i64.wrap ((j : Int) + 1) = (j : Int) + 1 := by rw [IntKind.wrap_i64]; omega
                  have HJ := Lib.hid (show L6.tsum (xa.take (j + 1)) = L6.tsum (xa.take j) + (xa.getD j []).length from by rw [L6.take_snoc hjl, L6.tsum_app]; simp [L6.tsum])
                  have HJL := Lib.hid hjl
                  clear hmem hjl
                  generalize xa.getD j [] = y at *
                  have hwl : IntKind.i64.wrap (L - (y.length : Int)) = L - (y.length : Int) := by rw [IntKind.wrap_i64]; omega
                  have HLE := Lib.hid (HL.out hz)
                  go_wp2_with fail
                  go_roundw
                  case rel => exact ⟨L - (y.length : Int), j + 1, n, rfl, by simp, rfl, HJL.out, by omega, by omega, fun _ => by have := HLE.out; have := HJ.out; omega⟩
                  case measure => have := HJL.out; simp; omega
                · have hz' : ¬ (0 : Int) ≤ L := hz
                  go_wp2_with fail
                  go_roundw
                  case rel => exact ⟨L, k + 1, n, rfl, by simp, rfl, HLT.out, hLlo, hLhi, fun hh => by omega⟩
                  case measure => have := HLT.out; simp; omega
              · have hle : (xa.length : Int) ≤ (j : Int) := by omega
                obtain rfl : j = xa.length := by omega
                have HT := Lib.hid (show xa.take xa.length = xa from List.take_of_length_le (Nat.le_refl _))
                go_wp2_with fail
                go_roundw
                case rel => exact ⟨L, k + 1, n, rfl, by simp, rfl, HLT.out, hLlo, hLhi, fun hh => by have := HL.out hh; rw [HT.out] at this; have := HPP.out; have := HWX.out; omega⟩
                case measure => have := HLT.out; simp; omega
      · have hle : (ls.length : Int) ≤ (k : Int) := by omega
        obtain rfl : k = ls.length := by omega
        have HT := Lib.hid (show L = 3000 - ((L6.weight ls : Nat) : Int) from by have := HL0.out hz; rwa [List.take_of_length_le (Nat.le_refl _)] at this)
        go_wp2_with fail
        go_ret
        exact ⟨true, rfl, fun _ => by have := HT.out; omega, isDrewN6 (Below.refl _ _) _⟩
    · have hz' : ¬ (0 : Int) ≤ L := hz
      by_cases hlt : k < ls.length
      · have hlt' : (k : Int) < (ls.length : Int) := by omega
        go_wp2_with fail
        go_ret
        exact ⟨false, rfl, fun hh => by simp at hh, isDrewN6 (Below.refl _ _) _⟩
      · have hle : (ls.length : Int) ≤ (k : Int) := by omega
        go_wp2_with fail
        go_ret
        exact ⟨false, rfl, fun hh => by simp at hh, isDrewN6 (Below.refl _ _) _⟩
end Go.Proofs.YtfafdkbnmfpbmaaDoor

/- The table of tens in the world that comes in. -/
namespace Go.Proofs.YtfafdkbnmfpbmaaDoor
open Go.RowKit Kit
set_option linter.unusedVariables false
set_option linter.unusedSimpArgs false

theorem L6.tab_named : Tryd.prog.globalNamed "internal/strconv.uint64pow10" = some 1 := by kernel_rfl
theorem L6.tab_type : (Tryd.prog.globals[1]?).map (·.type) = some 220 := by kernel_rfl
theorem L6.Tab.kept {w w' : World} (h : L6.Tab w) (hb : Below w.heap.size w w') : L6.Tab w' := by
  unfold L6.Tab Lib.TabIs at *
  unfold World.var? at *
  rw [L6.tab_named] at *
  simp only [Option.bind_some] at *
  cases hg : w.heap[1]? with
  | none => rw [hg] at h; cases h
  | some o =>
    rw [hb.block _ (Array.getElem?_eq_some_iff.1 hg).1]
    exact h
theorem L6.tab_datum : (Rows.laid_internal_strconv_uint64pow10 : DataW Unit) = Lib.tabData .u64 Lib.pow10Tab := by kernel_rfl
theorem L6.tab_of {W : World} (h : laidMetH Tryd.prog [("math/bits.deBruijn32tab", Rows.laid_math_bits_deBruijn32tab), ("math/bits.deBruijn64tab", Rows.laid_math_bits_deBruijn64tab), ("internal/strconv.uint64pow10", Rows.laid_internal_strconv_uint64pow10)] W) : L6.Tab W := by
  rw [MakeChecks.laidMetH_plain _ _ _ (by kernel_rfl)] at h
  obtain ⟨ps, ⟨g0, t0, cs0, f0, p0, q0, hg0, ht0, hv0, hd0, ⟨g1, t1, cs1, f1, p1, q1, hg1, ht1, hv1, hd1, ⟨g2, t2, cs2, f2, p2, q2, hg2, ht2, hv2, hd2, _, _⟩, _⟩, _⟩, _, _⟩ := h
  obtain rfl := Option.some.inj (L6.tab_named.symm.trans hg2)
  obtain rfl := Option.some.inj (L6.tab_type.symm.trans ht2)
  rw [L6.tab_datum] at hd2
  unfold L6.Tab Lib.TabIs
  rw [hv2, ← Lib.cells_of_tab Tryd.underlying220 Tryd.underlying207 (by kernel_rfl) (by kernel_rfl) hd2]
end Go.Proofs.YtfafdkbnmfpbmaaDoor
