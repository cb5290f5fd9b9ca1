/- Lines as text: plain, and the walk of Print. -/
import Derived.Test.YtfafdkbnmfpbmaaGreatDoorL6Bd
namespace Go.Proofs.YtfafdkbnmfpbmaaGreatDoor
open Go.RowKit Kit
set_option linter.unusedVariables false
set_option linter.unusedSimpArgs false

/-- How great lines are. -/
def L6.tsum (l : List (List UInt8)) : Nat := (l.map List.length).sum
def L6.lweight (x : L6.Line) : Nat := 4 + x.word.length + x.labels.length + x.args.length + L6.tsum x.labels + L6.tsum x.args
def L6.weight (ls : List L6.Line) : Nat := (ls.map L6.lweight).sum
theorem L6.tsum_cons (x : List UInt8) (t : List (List UInt8)) : L6.tsum (x :: t) = x.length + L6.tsum t := by simp [L6.tsum]
theorem L6.tsum_app (a b : List (List UInt8)) : L6.tsum (a ++ b) = L6.tsum a + L6.tsum b := by simp [L6.tsum]
theorem L6.weight_cons (x : L6.Line) (t : List L6.Line) : L6.weight (x :: t) = L6.lweight x + L6.weight t := by simp [L6.weight]
theorem L6.tsum_mem {l : List (List UInt8)} {x : List UInt8} (h : x ∈ l) : x.length ≤ L6.tsum l := by
  induction l with
  | nil => simp at h
  | cons y t ih =>
    rw [L6.tsum_cons]
    rcases List.mem_cons.1 h with rfl | h
    · omega
    · have := ih h; omega
theorem L6.weight_mem {ls : List L6.Line} {x : L6.Line} (h : x ∈ ls) : L6.lweight x ≤ L6.weight ls := by
  induction ls with
  | nil => simp at h
  | cons y t ih =>
    rw [L6.weight_cons]
    rcases List.mem_cons.1 h with rfl | h
    · omega
    · have := ih h; omega
theorem L6.weight_len (ls : List L6.Line) : 4 * ls.length ≤ L6.weight ls := by
  induction ls with
  | nil => simp
  | cons y t ih => rw [L6.weight_cons, List.length_cons]; unfold L6.lweight; omega
theorem L6.few_of {x : L6.Line} (h : L6.lweight x ≤ 100000000) : x.Few := by
  unfold L6.lweight at h
  refine ⟨⟨by omega, fun y hy => ?_⟩, by omega, by omega, fun y hy => ?_⟩
  · have := L6.tsum_mem hy; omega
  · have := L6.tsum_mem hy; omega
/-- A line's words as they are printed. -/
def L6.marked (l : List (List UInt8)) : List (List UInt8) := l.map (· ++ [58])
def L6.lineWords (x : L6.Line) : List (List UInt8) := L6.marked x.labels ++ (if x.word = [] then [] else [x.word]) ++ x.args
def L6.lineText (x : L6.Line) : List UInt8 := Lib.join (L6.lineWords x) [32] ++ [10]
def L6.text (ls : List L6.Line) : List UInt8 := ls.flatMap L6.lineText
def L6.print (ls : List L6.Line) : List UInt8 × Nat := if ls.all L6.right then (L6.text ls, 0) else ([], 1)
theorem L6.marked_len (l : List (List UInt8)) : (L6.marked l).length = l.length := by simp [L6.marked]
theorem L6.marked_sum (l : List (List UInt8)) : L6.tsum (L6.marked l) = L6.tsum l + l.length := by
  induction l with
  | nil => rfl
  | cons x t ih =>
    show L6.tsum ((x ++ [58]) :: L6.marked t) = _
    rw [L6.tsum_cons, ih, L6.tsum_cons]
    simp; omega
theorem L6.joinTail_len (r : List (List UInt8)) : (Lib.joinTail [32] r).length = L6.tsum r + r.length := by
  induction r with
  | nil => rfl
  | cons x t ih =>
    have e : Lib.joinTail [32] (x :: t) = 32 :: x ++ Lib.joinTail [32] t := by simp [Lib.joinTail]
    rw [e, L6.tsum_cons]
    simp [ih]; omega
theorem L6.join_len (l : List (List UInt8)) : (Lib.join l [32]).length ≤ L6.tsum l + l.length := by
  cases l with
  | nil => simp [Lib.join_nil]
  | cons x t =>
    rw [Lib.join_cons, List.length_append, L6.joinTail_len, L6.tsum_cons]
    simp; omega
theorem L6.lineWords_len (x : L6.Line) : (L6.lineWords x).length ≤ x.labels.length + 1 + x.args.length := by
  unfold L6.lineWords
  split <;> simp [L6.marked_len] <;> omega
theorem L6.lineWords_sum (x : L6.Line) : L6.tsum (L6.lineWords x) ≤ L6.tsum x.labels + x.labels.length + x.word.length + L6.tsum x.args := by
  unfold L6.lineWords
  rw [L6.tsum_app, L6.tsum_app, L6.marked_sum]
  split
  · simp [L6.tsum]
  · rw [L6.tsum_cons]; simp [L6.tsum]
theorem L6.lineText_len (x : L6.Line) : (L6.lineText x).length ≤ 2 * L6.lweight x := by
  unfold L6.lineText
  have h1 := L6.join_len (L6.lineWords x)
  have h2 := L6.lineWords_len x
  have h3 := L6.lineWords_sum x
  simp only [List.length_append, List.length_cons, List.length_nil]
  unfold L6.lweight
  omega
theorem L6.text_len (ls : List L6.Line) : (L6.text ls).length ≤ 2 * L6.weight ls := by
  induction ls with
  | nil => simp [L6.text]
  | cons x t ih =>
    have := L6.lineText_len x
    rw [L6.weight_cons]
    show (L6.lineText x ++ L6.text t).length ≤ _
    rw [List.length_append]
    omega
theorem L6.text_snoc (ls : List L6.Line) (x : L6.Line) : L6.text (ls ++ [x]) = L6.text ls ++ L6.lineText x := by simp [L6.text]
theorem L6.weight_take (ls : List L6.Line) (k : Nat) : L6.weight (ls.take k) ≤ L6.weight ls := by
  induction ls generalizing k with
  | nil => simp
  | cons x t ih =>
    cases k with
    | zero => simp [L6.weight]
    | succ k => rw [List.take_succ_cons, L6.weight_cons, L6.weight_cons]; have := ih k; omega
theorem ljoin_any (v : Value) (l : List (List UInt8)) (w : World) (h : RdS w v l) (hl : l.length + L6.tsum l ≤ 1000000000) :
    Calls Tryz.prog 61 #[v, .string ⟨#[32]⟩] w fun e w' => e = .returned (.string ⟨(Lib.join l [32]).toArray⟩) ∧ Below w.heap.size w w' := by
  cases l with
  | nil =>
    obtain ⟨A, c, rfl⟩ := h.nil_form
    exact (Tryz.strings_Join_none A c ⟨#[32]⟩ w).mono fun e w' hh => ⟨hh.1, by rw [hh.2]; exact Below.refl _ _⟩
  | cons x t =>
    have hpos : 0 < (x :: t).length := by simp
    have hj := L6.join_len (x :: t)
    generalize x :: t = ys at *
    obtain ⟨hl1, A, c, rfl, h2, h3, h4⟩ := h
    obtain ⟨g, off, rfl, hg, hc⟩ := h4 hpos
    have e1 : (ys.map fun y => (⟨y.toArray⟩ : ByteArray)).map (·.data.toList) = ys := by simp [List.map_map, Function.comp_def]
    have := Tryz.strings_Join g off c (ys.map fun y => (⟨y.toArray⟩ : ByteArray)) ⟨#[32]⟩ w (fun j x hx => by
      rw [List.getElem?_map, Option.map_eq_some_iff] at hx
      obtain ⟨y, hy, rfl⟩ := hx
      exact hc j _ (by simp [L6.sv, hy])) hg (by simp; omega) (by simpa using h2) (by rw [e1]; show (Lib.join ys [32]).length ≤ _; omega)
    rw [e1, List.length_map] at this
    exact this
end Go.Proofs.YtfafdkbnmfpbmaaGreatDoor

namespace Go.Proofs.YtfafdkbnmfpbmaaGreatDoor
open Go.RowKit Kit
set_option linter.unusedVariables false
set_option linter.unusedSimpArgs false

theorem L6.print_no {ls : List L6.Line} {k : Nat} (hk : k < ls.length) (h : L6.right ls[k] = false) : L6.print ls = ([], 1) := by
  unfold L6.print
  rw [if_neg]
  intro ha
  rw [List.all_eq_true.1 ha _ (List.getElem_mem hk)] at h
  cases h
theorem L6.print_yes {ls : List L6.Line} (h : ∀ j (hj : j < ls.length), L6.right ls[j] = true) : L6.print ls = (L6.text ls, 0) := by
  unfold L6.print
  rw [if_pos]
  rw [List.all_eq_true]
  intro x hx
  obtain ⟨i, hi, rfl⟩ := List.mem_iff_getElem.1 hx
  exact h i hi
theorem lret_si {a a' : ByteArray} {b b' : Int} (h1 : a = a') (h2 : b = b') : Ending.returned (.tuple #[.string a, .int .i64 b]) = .returned (.tuple #[.string a', .int .i64 b']) := by rw [h1, h2]
theorem L6.marked_take {l : List (List UInt8)} {j : Nat} (hj : j < l.length) : L6.marked (l.take (j + 1)) = L6.marked (l.take j) ++ [l.getD j [] ++ [58]] := by
  unfold L6.marked
  rw [List.take_add_one, List.getElem?_eq_getElem hj, List.map_append]
  simp [List.getD, hj]
theorem app_eq (a b : List UInt8) : (⟨a.toArray⟩ : ByteArray) ++ ⟨b.toArray⟩ = ⟨(a ++ b).toArray⟩ := by
  apply ByteArray.ext
  rw [ByteArray.data_append]
  simp
theorem OwnS.snoc {base : Nat} {w : World} {v : Value} {l : List (List UInt8)} {y : List UInt8} {n : Nat} (hn : l.length = n) (h : w.ownsRow base 9 1 v (n + 1) (L6.sv l ++ [.string ⟨y.toArray⟩])) : OwnS base w v (l ++ [y]) := by
  unfold OwnS
  rw [L6.sv_append, List.length_append, hn]
  exact h
theorem OwnS.many {base : Nat} {w : World} {v : Value} {l r : List (List UInt8)} {n m : Nat} (hn : l.length = n) (hm : r.length = m) (h : w.ownsRow base 9 1 v (n + m) (L6.sv l ++ L6.sv r)) : OwnS base w v (l ++ r) := by
  unfold OwnS
  rw [L6.sv_append, List.length_append, hn, hm]
  exact h
theorem OwnS.row {base : Nat} {w : World} {v : Value} {l : List (List UInt8)} {n : Nat} (h : OwnS base w v l) (hn : l.length = n) : w.ownsRow base 9 1 v n (L6.sv l) := by
  unfold OwnS at h
  rw [hn] at h
  exact h
theorem src_texts {w : World} {v : Value} {l : List (List UInt8)} (h : RdS w v l) : Src Tryz.prog 1 47 v l.length (L6.sv l) w := Rd.src lsrt h (L6.sv_one l)
set_option maxRecDepth 100000 in
set_option maxHeartbeats 4000000 in
theorem lprint_any (v : Value) (ls : List L6.Line) (w : World) (h : RdL w v ls) (hw : L6.weight ls ≤ 100000000) :
    Calls Tryz.prog 18 #[v] w fun e w' => e = .returned (.tuple #[.string ⟨(L6.print ls).1.toArray⟩, .int .i64 (L6.print ls).2]) ∧ Below w.heap.size w w' := by
  have HH := Lib.hid h
  have HW := Lib.hid hw
  have HLL := Lib.hid (show ls.length ≤ 100000000 from by have := L6.weight_len ls; omega)
  have HFEW := Lib.hid (show ∀ x ∈ ls, x.Few from fun x hx => L6.few_of (Nat.le_trans (L6.weight_mem hx) hw))
  have HNO := Lib.hid (fun (k : Nat) => L6.print_no (ls := ls) (k := k))
  have HYES := Lib.hid (L6.print_yes (ls := ls))
  obtain ⟨A, c, rfl⟩ := h.form
  clear h hw
  go_enter Tryz.func18, Tryz.ntmps18
  go_wp2_with fail
  have HB0 := Lib.hid (show Below w.heap.size w (w.alloc (.cells #[.pointer none, .slice none 0 0] 132)) from (Below.refl _ _).alloc (Nat.le_refl _) _)
  have HBD0 := Lib.hid (Bd.fresh w)
  go_loopw [12] (fun i wr => ∃ k : Nat, i = .int .i64 (k : Int) ∧ k ≤ ls.length ∧ Bd w.heap.size w.heap.size (L6.text (ls.take k)) wr ∧ Below w.heap.size w wr ∧ ∀ j (hj : j < ls.length), j < k → L6.right ls[j] = true) (fun i _ => match i with | .int _ n => ls.length - n.toNat | _ => 0)
  case atStart => exact ⟨0, rfl, Nat.zero_le _, HBD0.out, HB0.out, fun j _ hj => absurd hj (by omega)⟩
  case round =>
    obtain ⟨k, rfl, hk, hbd, hbr, hri⟩ := hrel
    have HBD := Lib.hid hbd
    have HBR := Lib.hid hbr
    have HRI := Lib.hid hri
    clear hbd hbr hri
    by_cases hlt : k < ls.length
    · have hlt' : (k : Int) < (ls.length : Int) := by omega
      have hw1 : IntKind.i64.wrap ((k : Int) + 1) = (k : Int) + 1 := by have := HLL.out; rw [IntKind.wrap_i64]; omega
      obtain ⟨g, off, c', vl, va, e, hg, c0, c1, c2, r1, r2⟩ := HH.out.at hlt
      injection e with e1 e2 e3
      subst e1 e3
      have HX := Lib.hid (show ls.take (k + 1) = ls.take k ++ [ls[k]] from lines_take hlt)
      have HFX := Lib.hid (HFEW.out _ (List.getElem_mem hlt))
      have HWX := Lib.hid (Nat.le_trans (L6.weight_mem (List.getElem_mem hlt)) HW.out)
      have HNK := Lib.hid (HNO.out k hlt)
      have HLT := Lib.hid hlt
      have HRK := Lib.hid (fun (h1 : L6.right ls[k] = true) j (hj : j < ls.length) (hjk : j < k + 1) => show L6.right ls[j] = true from by
        by_cases e : j = k
        · subst e; exact h1
        · exact HRI.out j hj (by omega))
      have q0 := (HBR.out.cell (p := ⟨g, off + k * 3, none⟩) hg).trans c0
      have q1 := (HBR.out.cell (p := ⟨g, off + k * 3 + 1, none⟩) hg).trans c1
      have q2 := (HBR.out.cell (p := ⟨g, off + k * 3 + 2, none⟩) hg).trans c2
      have HR1 := Lib.hid (r1.kept HBR.out)
      have HR2 := Lib.hid (r2.kept HBR.out)
      clear c0 c1 c2 r1 r2
      generalize hX : ls[k] = X at *
      clear hX
      obtain ⟨xl, xw, xa⟩ := X
      dsimp only at HR1 HR2 q1
      obtain ⟨B1, cc1, rfl⟩ := HR1.out.form
      obtain ⟨B2, cc2, rfl⟩ := HR2.out.form
      have HAL := Lib.hid (show Below wr.heap.size wr (wr.alloc (.cells #[.slice B1 xl.length cc1, .string ⟨xw.toArray⟩, .slice B2 xa.length cc2] 50)) from (Below.refl _ _).alloc (Nat.le_refl _) _)
      have HBK := Lib.hid (Bk.fresh wr 50 #[.slice B1 xl.length cc1, .string ⟨xw.toArray⟩, .slice B2 xa.length cc2])
      have CR := Lib.hid (lright_any (.slice B1 xl.length cc1) (.slice B2 xa.length cc2) ⟨xl, xw, xa⟩ _ (HR1.out.kept HAL.out) (HR2.out.kept HAL.out) HFX.out)
      cases hrx : L6.right ⟨xl, xw, xa⟩
      · have HR := Lib.hid (HNK.out hrx)
        rw [hrx] at CR
        clear HNK HRK hrx
        go_wp2_with (go_at_call 59; refine CR.out.mono ?_; rintro e w1 ⟨rfl, hb1⟩)
        go_ret2
        exact ⟨lret_si (by rw [HR.out]) (by rw [HR.out]; rfl), HBR.out.trans ((HAL.out.trans (hb1.mono HAL.out.size)).mono HBR.out.size)⟩
      · have HRN := Lib.hid (HRK.out hrx)
        rw [hrx] at CR
        clear HNK HRK hrx
        go_wp2_with (go_at_call 59; refine CR.out.mono ?_; rintro e w1 ⟨rfl, hb1⟩; have hk1 := HBK.out.kept hb1; have p0 := hk1.cell 0; have p1 := hk1.cell 1; have p2 := hk1.cell 2)
        have HB1 := Lib.hid (HAL.out.trans (hb1.mono HAL.out.size))
        have HK1 := Lib.hid hk1
        clear hk1 hb1
        go_loopw [7, 22] (fun o i wi => ∃ j : Nat, i = .int .i64 (j : Int) ∧ j ≤ xl.length ∧ OwnS w1.heap.size wi o (L6.marked (xl.take j)) ∧ Below w1.heap.size w1 wi) (fun _ i _ => match i with | .int _ n => xl.length - n.toNat | _ => 0)
        case atStart => exact ⟨0, rfl, Nat.zero_le _, OwnS.nil _ _, Below.refl _ _⟩
        case round =>
          obtain ⟨j, rfl, hj, how, hbi⟩ := hrel
          have HOW := Lib.hid how
          have HBI := Lib.hid hbi
          have HBW := Lib.hid (HB1.out.trans (hbi.mono HB1.out.size))
          obtain ⟨AO, cO, hv⟩ := how.form
          have hml : (L6.marked (xl.take j)).length = j := by rw [L6.marked_len, List.length_take]; omega
          rw [hml] at hv
          subst hv
          have HML := Lib.hid hml
          clear how hbi p0 p1 p2 hml
          by_cases hjl : j < xl.length
          · have hjl' : (j : Int) < (xl.length : Int) := by omega
            have hwj : IntKind.i64.wrap ((j : Int) + 1) = (j : Int) + 1 := by have := HFX.out.1.1; simp only at this; rw [IntKind.wrap_i64]; omega
            obtain ⟨gl, ofl, cl, e, hgl, hcl⟩ := HR1.out.at hjl
            injection e with e1 e2 e3
            subst e1 e3
            have hcr := (HBW.out.cell (p := ⟨gl, ofl + j, none⟩) hgl).trans hcl
            have HJL := Lib.hid hjl
            have HMT := Lib.hid (L6.marked_take hjl)
            have hzl : xl.length ≤ 1000000000 := HFX.out.1.1
            have HL1 := Lib.hid (show (j + 1) * 16 ≤ 140737488355328 from by omega)
            have HL2 := Lib.hid (show j + 1 ≤ maxLen from by unfold maxLen; omega)
            have hyl : (xl.getD j []).length ≤ 1000000000 := HFX.out.1.2 _ (by rw [List.getD, List.getElem?_eq_getElem hjl]; exact List.getElem_mem hjl)
            clear hcl hjl hzl
            generalize xl.getD j [] = y at *
            have hcat : ¬ 9223372036854775807 < y.length + 1 := by omega
            clear hyl
            have hal : Below wr.heap.size wr (wr.alloc (.cells #[.string ((⟨y.toArray⟩ : ByteArray) ++ (⟨#[58]⟩ : ByteArray))] 9)) := (Below.refl _ _).alloc (Nat.le_refl _) _
            have HOWA := Lib.hid ((HOW.out.kept hal).row HML.out)
            have HSA := Lib.hid (show Src Tryz.prog 1 47 (.slice (some ⟨wr.heap.size, 0, none⟩) 1 1) 1 [.string ((⟨y.toArray⟩ : ByteArray) ++ (⟨#[58]⟩ : ByteArray))] (wr.alloc (.cells #[.string ((⟨y.toArray⟩ : ByteArray) ++ (⟨#[58]⟩ : ByteArray))] 9)) from by rw [show (⟨y.toArray⟩ : ByteArray) ++ (⟨#[58]⟩ : ByteArray) = ⟨(y ++ [58]).toArray⟩ from app_eq y [58]]; exact src_one wr (y ++ [58]))
            have HBA := Lib.hid (HBI.out.trans (hal.mono HBI.out.size))
            have HZ := Lib.hid HBA.out.size
            clear hal
            go_wp2_with (at_builtin; refine wpList_appendRB rfl _ _ _ _ rfl lsrt (by decide) w1.heap.size _ rfl j (L6.sv (L6.marked (xl.take j))) HOWA.out _ rfl 1 [.string ((⟨y.toArray⟩ : ByteArray) ++ (⟨#[58]⟩ : ByteArray))] HSA.out HL1.out HL2.out HZ.out ?_; intro v3 w3 ho3 hb3 _ _; have HO3 := Lib.hid ho3; have HB3 := Lib.hid (HBA.out.trans hb3); obtain ⟨A3, c3, rfl⟩ := (Rd.of_own ho3).form; clear ho3 hb3)
            go_roundw
            case rel =>
              refine ⟨j + 1, by simp, HJL.out, ?_, HB3.out⟩
              rw [HMT.out]
              have := HO3.out
              rw [show (⟨y.toArray⟩ : ByteArray) ++ (⟨#[58]⟩ : ByteArray) = ⟨(y ++ [58]).toArray⟩ from app_eq y [58]] at this
              exact OwnS.snoc HML.out this
            case measure => have := HJL.out; simp; omega
          · have hle : (xl.length : Int) ≤ (j : Int) := by omega
            obtain rfl : j = xl.length := by omega
            have HTK := Lib.hid (show xl.take xl.length = xl from List.take_of_length_le (Nat.le_refl _))
            rw [HTK.out] at HOW
            have hk2 := HK1.out.kept HBI.out
            have p0 := hk2.cell 0
            have p1 := hk2.cell 1
            have p2 := hk2.cell 2
            have HK2 := Lib.hid hk2
            have HR2W := Lib.hid (HR2.out.kept HBW.out)
            have HFF := HFX.out
            have hfw : (L6.lineWords ⟨xl, xw, xa⟩).length ≤ 300000001 := by have := L6.lineWords_len ⟨xl, xw, xa⟩; simp only at this; have hwx := HWX.out; unfold L6.lweight at hwx; simp only at hwx; omega
            have hfs : L6.tsum (L6.lineWords ⟨xl, xw, xa⟩) ≤ 400000000 := by have := L6.lineWords_sum ⟨xl, xw, xa⟩; simp only at this; have hwx := HWX.out; unfold L6.lweight at hwx; simp only at hwx; omega
            have hjn := L6.join_len (L6.lineWords ⟨xl, xw, xa⟩)
            have htl : (L6.text (ls.take k)).length ≤ 200000000 := by have := L6.text_len (ls.take k); have := L6.weight_take ls k; have := HW.out; omega
            have CJ := Lib.hid (fun v W (h : RdS W v (L6.lineWords ⟨xl, xw, xa⟩)) => ljoin_any v _ W h (by omega))
            have HTX := Lib.hid (show L6.lineText ⟨xl, xw, xa⟩ = Lib.join (L6.lineWords ⟨xl, xw, xa⟩) [32] ++ [10] from rfl)
            have HLW := Lib.hid (show L6.lineWords ⟨xl, xw, xa⟩ = L6.marked xl ++ (if xw = [] then [] else [xw]) ++ xa from rfl)
            have CWR := Lib.hid (fun W (h : Bd w.heap.size w.heap.size (L6.text (ls.take k)) W) hb => bwrite_any w.heap.size w.heap.size (L6.text (ls.take k)) (Lib.join (L6.lineWords ⟨xl, xw, xa⟩) [32]) W h (by omega) hb)
            have CBY := Lib.hid (fun W (h : Bd w.heap.size w.heap.size (L6.text (ls.take k) ++ Lib.join (L6.lineWords ⟨xl, xw, xa⟩) [32]) W) hb => bbyte_any w.heap.size w.heap.size _ 10 W h (by rw [List.length_append]; omega) hb)
            have hla : xl.length + 1 + xa.length ≤ 300000001 := by have hwx := HWX.out; unfold L6.lweight at hwx; simp only at hwx; omega
            have HLA := Lib.hid hla
            have HML2 := Lib.hid (L6.marked_len xl)
            clear hk2 HFF hfw hfs hjn htl hle hla
            generalize Lib.join (L6.lineWords ⟨xl, xw, xa⟩) [32] = J at *
            by_cases hxw : xw = []
            · subst hxw
              have HRD := Lib.hid (fun v W (h : W.ownsRow w1.heap.size 9 1 v (xl.length + xa.length) (L6.sv (L6.marked xl) ++ L6.sv xa)) => show RdS W v (L6.lineWords ⟨xl, [], xa⟩) from by
                rw [HLW.out, if_pos rfl, List.append_nil]
                exact (OwnS.many HML2.out rfl h).rd)
              have HOWA := Lib.hid (HOW.out.row HML2.out)
              have HSA := Lib.hid (src_texts HR2W.out)
              have HL3 := Lib.hid (show (xl.length + xa.length) * 16 ≤ 140737488355328 from by have := HLA.out; omega)
              have HL4 := Lib.hid (show xl.length + xa.length ≤ maxLen from by have := HLA.out; unfold maxLen; omega)
              have HZ := Lib.hid HBI.out.size
              clear HFX HWX
              go_wp2_with (first | (at_builtin; refine wpList_appendRB rfl _ _ _ _ rfl lsrt (by decide) w1.heap.size _ rfl xl.length (L6.sv (L6.marked xl)) HOWA.out _ rfl xa.length (L6.sv xa) HSA.out HL3.out HL4.out HZ.out ?_; intro v4 w4 ho4 hb4 _ _; have HO4 := Lib.hid ho4; have HI4 := Lib.hid (HBI.out.trans hb4); have H4 := Lib.hid (HB1.out.trans (HI4.out.mono HB1.out.size)); obtain ⟨A4, c4, rfl⟩ := (Rd.of_own ho4).form; clear ho4 hb4) | (go_at_call 61; refine (CJ.out _ _ (HRD.out _ _ HO4.out)).mono ?_; rintro e w5 ⟨rfl, hb5⟩; have H5 := Lib.hid (H4.out.trans (hb5.mono H4.out.size))) | (go_at_call 60; refine (CWR.out _ (HBD.out.kept H5.out) (Nat.le_trans HBR.out.size H5.out.size)).mono ?_; rintro e w6 ⟨rfl, hd6, hb6⟩; have H6 := Lib.hid ((HBR.out.trans (H5.out.mono HBR.out.size)).trans hb6)) | (go_at_call 62; refine (CBY.out _ hd6.bd H6.out.size).mono ?_; rintro e w7 ⟨rfl, hd7, hb7⟩))
              go_roundw
              case rel => exact ⟨k + 1, by simp, HLT.out, by rw [HX.out, L6.text_snoc, HTX.out, ← List.append_assoc]; exact hd7.bd, H6.out.trans hb7, HRN.out⟩
              case measure => have := HLT.out; simp; omega
            · have hne : (xw == ([] : List UInt8)) = false := by simpa using hxw
              have HRD := Lib.hid (fun v W (h : W.ownsRow w1.heap.size 9 1 v (xl.length + 1 + xa.length) (L6.sv (L6.marked xl ++ [xw]) ++ L6.sv xa)) => show RdS W v (L6.lineWords ⟨xl, xw, xa⟩) from by
                rw [HLW.out, if_neg hxw]
                exact (OwnS.many (by rw [List.length_append, HML2.out]; rfl) rfl h).rd)
              have hal : Below wr.heap.size wr (wr.alloc (.cells #[.string ⟨xw.toArray⟩] 9)) := (Below.refl _ _).alloc (Nat.le_refl _) _
              have HOWA := Lib.hid ((HOW.out.kept hal).row HML2.out)
              have HSA := Lib.hid (src_one wr xw)
              have HBA := Lib.hid (HBI.out.trans (hal.mono HBI.out.size))
              have HZ := Lib.hid HBA.out.size
              have HL1 := Lib.hid (show (xl.length + 1) * 16 ≤ 140737488355328 from by have := HLA.out; omega)
              have HL2 := Lib.hid (show xl.length + 1 ≤ maxLen from by have := HLA.out; unfold maxLen; omega)
              have HL3 := Lib.hid (show (xl.length + 1 + xa.length) * 16 ≤ 140737488355328 from by have := HLA.out; omega)
              have HL4 := Lib.hid (show xl.length + 1 + xa.length ≤ maxLen from by have := HLA.out; unfold maxLen; omega)
              clear HFX HWX hal hxw
              go_wp2_with (first | (at_builtin; refine wpList_appendRB rfl _ _ _ _ rfl lsrt (by decide) w1.heap.size _ rfl xl.length (L6.sv (L6.marked xl)) HOWA.out _ rfl 1 [.string ⟨xw.toArray⟩] HSA.out HL1.out HL2.out HZ.out ?_; intro v3 w3 ho3 hb3 _ _; have HO3 := Lib.hid ((OwnS.snoc HML2.out ho3).row (n := xl.length + 1) (by rw [List.length_append, HML2.out]; rfl)); have HB3 := Lib.hid (HBA.out.trans hb3); have HZ3 := Lib.hid HB3.out.size; have hbb3 := HB1.out.trans (HB3.out.mono HB1.out.size); have HSA3 := Lib.hid (src_texts (HR2.out.kept hbb3)); obtain ⟨A3, c3, rfl⟩ := (Rd.of_own ho3).form; have hk3 := HK1.out.kept HB3.out; have s0 := hk3.cell 0; have s1 := hk3.cell 1; have s2 := hk3.cell 2; clear ho3 hb3) | (at_builtin; refine wpList_appendRB rfl _ _ _ _ rfl lsrt (by decide) w1.heap.size _ rfl (xl.length + 1) (L6.sv (L6.marked xl ++ [xw])) HO3.out _ rfl xa.length (L6.sv xa) HSA3.out HL3.out HL4.out HZ3.out ?_; intro v4 w4 ho4 hb4 _ _; have HO4 := Lib.hid ho4; have HI4 := Lib.hid (HB3.out.trans hb4); have H4 := Lib.hid (HB1.out.trans (HI4.out.mono HB1.out.size)); obtain ⟨A4, c4, rfl⟩ := (Rd.of_own ho4).form; clear ho4 hb4) | (go_at_call 61; refine (CJ.out _ _ (HRD.out _ _ HO4.out)).mono ?_; rintro e w5 ⟨rfl, hb5⟩; have H5 := Lib.hid (H4.out.trans (hb5.mono H4.out.size))) | (go_at_call 60; refine (CWR.out _ (HBD.out.kept H5.out) (Nat.le_trans HBR.out.size H5.out.size)).mono ?_; rintro e w6 ⟨rfl, hd6, hb6⟩; have H6 := Lib.hid ((HBR.out.trans (H5.out.mono HBR.out.size)).trans hb6)) | (go_at_call 62; refine (CBY.out _ hd6.bd H6.out.size).mono ?_; rintro e w7 ⟨rfl, hd7, hb7⟩))
              go_roundw
              case rel => exact ⟨k + 1, by simp, HLT.out, by rw [HX.out, L6.text_snoc, HTX.out, ← List.append_assoc]; exact hd7.bd, H6.out.trans hb7, HRN.out⟩
              case measure => have := HLT.out; simp; omega
    · have hle : (ls.length : Int) ≤ (k : Int) := by omega
      have HT := Lib.hid (show ls.take k = ls from List.take_of_length_le (by omega))
      have HR := Lib.hid (HYES.out (fun j hj => HRI.out j hj (by omega)))
      have CS := Lib.hid (Tryz.Builder_String_any w.heap.size w.heap.size (L6.text (ls.take k)) wr HBD.out HBR.out.size)
      go_wp2_with (go_at_call 63; refine CS.out.mono ?_; rintro e w1 ⟨rfl, hb1⟩)
      go_ret2
      exact ⟨lret_si (by rw [HR.out, HT.out]) (by rw [HR.out]; rfl), HBR.out.trans hb1⟩
end Go.Proofs.YtfafdkbnmfpbmaaGreatDoor
