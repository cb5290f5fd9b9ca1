/- The walk of the law CrossNotes. -/
import Derived.Test.YtfafdkbnmfpbmaaDoorXcComp
import Derived.Test.YtfafdkbnmfpbmaaDoorXcPlain
import Derived.Test.YtfafdkbnmfpbmaaDoorXcRight
import Derived.Test.YtfafdkbnmfpbmaaDoorL6Open
namespace Go.Proofs.YtfafdkbnmfpbmaaDoor
open Go.RowKit Kit
set_option linter.unusedVariables false
set_option linter.unusedSimpArgs false

theorem xnum_any (n : Int) (w : World) : Calls Tryd.prog 25 #[.int .i64 n] w fun e w' => e = .returned (.int .i64 n) ∧ w = w' := by
  go_enter Tryd.func25, Tryd.ntmps25
  go_wp2_with fail
  go_ret
  exact ⟨rfl, rfl⟩
/-- What is known: the words of a first source. -/
def Xc.kSrc : List UInt8 := [58, 32, 65, 32, 53, 32, 59]
def Xc.kWords : List Xc.W := [⟨[100, 101, 102, 32, 65], 0, [Xc.lDown, Xc.lSave, [108, 105, 32, 116, 48, 32, 53], Xc.lAddi, Xc.lSw, Xc.lRa, Xc.lSp, Xc.lRet]⟩]
theorem Xc.k_comp : Xc.comp [76] 0 Xc.start (L6.split Xc.kSrc) = .ok ⟨[], Xc.kWords, false, [65], [], 0, []⟩ := by kernel_rfl
def Xc.kText : List UInt8 := [100, 101, 102, 32, 65, 32, 48, 10] ++ (Xc.lDown ++ 10 :: (Xc.lSave ++ 10 :: ([108, 105, 32, 116, 48, 32, 53] ++ 10 :: (Xc.lAddi ++ 10 :: (Xc.lSw ++ 10 :: (Xc.lRa ++ 10 :: (Xc.lSp ++ 10 :: (Xc.lRet ++ [10]))))))))
theorem Xc.dec0 : Lib.decDigits 0 = [48] := by unfold Lib.decDigits; rw [dif_pos (by decide)]; rfl
theorem Xc.k_text : Xc.text Xc.kWords = Xc.kText := by
  unfold Xc.text Xc.kWords Xc.textW
  rw [List.flatMap_cons, List.flatMap_nil]
  dsimp only
  rw [Xc.dec0]
  rfl
theorem Xc.k_compile : Xc.compile [76] Xc.kSrc = some (Xc.kText, 0, 0) := by
  unfold Xc.compile
  rw [Xc.k_comp]
  dsimp only
  rw [Xc.k_text]
set_option maxRecDepth 100000 in
set_option maxHeartbeats 1000000 in
theorem xknows_any (w : World) (hT : L6.Tab w) : Calls Tryd.prog 21 #[] w fun e w' => e = .returned (.bool true) ∧ Below w.heap.size w w' := by
  have CC := Lib.hid ((xcompile_any Xc.kSrc w (by decide) hT (by rw [Xc.k_compile]; intro h; cases h)).mono (R' := fun e w' => e = .returned (.tuple #[.string ⟨Xc.kText.toArray⟩, .int .i64 0, .int .i64 0]) ∧ Below w.heap.size w w') (by
    rintro e w' ⟨⟨r, hr, he⟩, h2⟩
    rw [Xc.k_compile] at hr
    injection hr with hr
    subst hr
    exact ⟨he, h2⟩))
  clear hT
  go_enter Tryd.func21, Tryd.ntmps21
  go_wp2_with (first | (go_at_call 24; refine CC.out.mono ?_; rintro e w1 ⟨rfl, hb1⟩) | (go_at_call 25; refine (xnum_any _ _).mono ?_; rintro e w' ⟨rfl, rfl⟩))
  go_ret
  exact ⟨rfl, hb1⟩
set_option maxRecDepth 20000 in
theorem xtaker_any (c : List UInt8) (w : World) : Calls Tryd.prog 23 #[.string ⟨c.toArray⟩] w fun e w' => e = .returned (.bool (Xc.taker c)) ∧ w = w' := by
  have HV := Lib.hid (show Xc.taker c = (decide (c = Xc.tColon) || (decide (c = Xc.tColons) || (decide (c = Xc.tVar) || (decide (c = Xc.tVars) || (decide (c = Xc.tCon) || (decide (c = Xc.tCons) || (decide (c = Xc.tTick) || decide (c = Xc.tChar)))))))) from rfl)
  by_cases h1 : c = Xc.tColon
  · subst h1
    go_enter Tryd.func23, Tryd.ntmps23
    go_wp2_with fail
    go_ret
    exact ⟨rfl, rfl⟩
  by_cases h2 : c = Xc.tColons
  · subst h2
    go_enter Tryd.func23, Tryd.ntmps23
    go_wp2_with fail
    go_ret
    exact ⟨rfl, rfl⟩
  by_cases h3 : c = Xc.tVar
  · subst h3
    go_enter Tryd.func23, Tryd.ntmps23
    go_wp2_with fail
    go_ret
    exact ⟨rfl, rfl⟩
  by_cases h4 : c = Xc.tVars
  · subst h4
    go_enter Tryd.func23, Tryd.ntmps23
    go_wp2_with fail
    go_ret
    exact ⟨rfl, rfl⟩
  by_cases h5 : c = Xc.tCon
  · subst h5
    go_enter Tryd.func23, Tryd.ntmps23
    go_wp2_with fail
    go_ret
    exact ⟨rfl, rfl⟩
  by_cases h6 : c = Xc.tCons
  · subst h6
    go_enter Tryd.func23, Tryd.ntmps23
    go_wp2_with fail
    go_ret
    exact ⟨rfl, rfl⟩
  by_cases h7 : c = Xc.tTick
  · subst h7
    go_enter Tryd.func23, Tryd.ntmps23
    go_wp2_with fail
    go_ret
    exact ⟨rfl, rfl⟩
  by_cases h8 : c = Xc.tChar
  · subst h8
    go_enter Tryd.func23, Tryd.ntmps23
    go_wp2_with fail
    go_ret
    exact ⟨rfl, rfl⟩
  have HV2 := Lib.hid (show Xc.taker c = false from by rw [HV.out, decide_eq_false h1, decide_eq_false h2, decide_eq_false h3, decide_eq_false h4, decide_eq_false h5, decide_eq_false h6, decide_eq_false h7, decide_eq_false h8]; rfl)
  have g1 : (c == [58]) = false := by simpa using (show ¬ c = [58] from h1)
  have g2 : (c == [58, 58]) = false := by simpa using (show ¬ c = [58, 58] from h2)
  have g3 : (c == [86, 65, 82, 73, 65, 66, 76, 69]) = false := by simpa using (show ¬ c = [86, 65, 82, 73, 65, 66, 76, 69] from h3)
  have g4 : (c == [58, 58, 86, 65, 82, 73, 65, 66, 76, 69]) = false := by simpa using (show ¬ c = [58, 58, 86, 65, 82, 73, 65, 66, 76, 69] from h4)
  have g5 : (c == [67, 79, 78, 83, 84, 65, 78, 84]) = false := by simpa using (show ¬ c = [67, 79, 78, 83, 84, 65, 78, 84] from h5)
  have g6 : (c == [58, 58, 67, 79, 78, 83, 84, 65, 78, 84]) = false := by simpa using (show ¬ c = [58, 58, 67, 79, 78, 83, 84, 65, 78, 84] from h6)
  have g7 : (c == [91, 39, 93]) = false := by simpa using (show ¬ c = [91, 39, 93] from h7)
  have g8 : (c == [91, 67, 72, 65, 82, 93]) = false := by simpa using (show ¬ c = [91, 67, 72, 65, 82, 93] from h8)
  clear h1 h2 h3 h4 h5 h6 h7 h8 HV
  go_enter Tryd.func23, Tryd.ntmps23
  go_wp2_with fail
  go_ret
  exact ⟨xret_bool HV2.out.symm, rfl⟩
/-- A word that is right is none of blanks. -/
theorem Nm.right_gap {l : List UInt8} (h : Nm.right l = true) : l ≠ [] ∧ (∀ c ∈ l, Xc.gap c = false) ∧ l.length ≤ 31 := by
  unfold Nm.right at h
  simp only [Bool.and_eq_true, decide_eq_true_eq, Bool.not_eq_true', List.all_eq_true] at h
  refine ⟨fun e => by rw [e] at h; simp at h, fun c hc => ?_, h.2.2⟩
  have := h.1 c hc
  unfold Nm.okc at this
  simp only [Bool.and_eq_true, decide_eq_true_eq] at this
  unfold Xc.gap
  exact decide_eq_false (by omega)
theorem Xc.plainL_len {w : List UInt8} (h : w.length ≤ 31) : (Xc.plainL w).length ≤ 36 := by
  unfold Xc.plainL
  split
  · rw [List.length_append]
    show w.length + 5 ≤ 36
    omega
  · omega
theorem Xc.fullL_len {w note : List UInt8} (h : w.length ≤ 31) (hn : note.length ≤ 30) : (Xc.fullL note w).length ≤ 106 := by
  have := Xc.plainL_len h
  unfold Xc.fullL Xc.tailL
  simp only [List.length_cons, List.length_append]
  omega
theorem Xc.plainT_len : ∀ (l : List (List UInt8)), (∀ x ∈ l, x.length ≤ 31) → (Xc.plainT l).length ≤ 40 * l.length
  | [], _ => by simp [Xc.plainT]
  | x :: t, h => by
    have h1 := Xc.plainL_len (h x (by simp))
    have h2 := Xc.plainT_len t (fun y hy => h y (by simp [hy]))
    have e : Xc.plainT (x :: t) = (Xc.plainL x ++ [10]) ++ Xc.plainT t := rfl
    rw [e]
    simp only [List.length_append, List.length_cons, List.length_nil]
    omega
theorem Xc.fullT_len {note : List UInt8} (hn : note.length ≤ 30) : ∀ (l : List (List UInt8)), (∀ x ∈ l, x.length ≤ 31) → (Xc.fullT note l).length ≤ 110 * l.length
  | [], _ => by simp [Xc.fullT]
  | x :: t, h => by
    have h1 := Xc.fullL_len (note := note) (h x (by simp)) hn
    have h2 := Xc.fullT_len hn t (fun y hy => h y (by simp [hy]))
    have e : Xc.fullT note (x :: t) = (Xc.fullL note x ++ [10]) ++ Xc.fullT note t := rfl
    rw [e]
    simp only [List.length_append, List.length_cons, List.length_nil]
    omega
theorem Xc.plainT_snoc {l : List (List UInt8)} {k : Nat} (hk : k < l.length) : Xc.plainT (l.take (k + 1)) = Xc.plainT (l.take k) ++ (Xc.plainL (l.getD k []) ++ [10]) := by
  rw [L6.take_snoc hk]
  unfold Xc.plainT
  rw [List.flatMap_append]
  simp
theorem Xc.fullT_snoc {note : List UInt8} {l : List (List UInt8)} {k : Nat} (hk : k < l.length) : Xc.fullT note (l.take (k + 1)) = Xc.fullT note (l.take k) ++ (Xc.fullL note (l.getD k []) ++ [10]) := by
  rw [L6.take_snoc hk]
  unfold Xc.fullT
  rw [List.flatMap_append]
  simp
-- core
set_option maxRecDepth 100000 in
set_option maxHeartbeats 4000000 in
theorem core_crossNotes (v : Value) (l : List (List UInt8)) (note : List UInt8) (w : World) (h : RdS w v l) (hl : l.length ≤ 140737488351232) (hlm : ∀ x ∈ l, x.length ≤ maxLen) (hn : note.length ≤ maxLen) (hT : L6.Tab w) :
    Calls Tryd.prog 6 #[v, .string ⟨note.toArray⟩] w fun e w' => e = .returned (.bool true) ∧ Below w.heap.size w w' := by
  have CK := Lib.hid (fun W (hT : L6.Tab W) => xknows_any W hT)
  have HT := Lib.hid hT
  have HH := Lib.hid h
  have HLM := Lib.hid hlm
  have HNL := Lib.hid hn
  have HLL := Lib.hid hl
  obtain ⟨A, c, rfl⟩ := h.form
  clear h hT hlm
  by_cases hbig : 60 < l.length
  · have hbig' : (60 : Int) < l.length := by omega
    go_enter Tryd.func6, Tryd.ntmps6
    go_wp2_with (go_at_call 21; refine (CK.out _ HT.out).mono ?_; rintro e w1 ⟨rfl, hb1⟩)
    go_ret
    exact ⟨rfl, hb1⟩
  have hbig' : ¬ (60 : Int) < l.length := by omega
  by_cases hbn : 30 < note.length
  · have hbn' : (30 : Int) < note.length := by omega
    go_enter Tryd.func6, Tryd.ntmps6
    go_wp2_with (go_at_call 21; refine (CK.out _ HT.out).mono ?_; rintro e w1 ⟨rfl, hb1⟩)
    go_ret
    exact ⟨rfl, hb1⟩
  have hbn' : ¬ (30 : Int) < note.length := by omega
  have HL60 := Lib.hid (show l.length ≤ 60 from by omega)
  have HN30 := Lib.hid (show note.length ≤ 30 from by omega)
  clear hbig hbn hl hn
  go_enter Tryd.func6, Tryd.ntmps6
  go_wp2_with fail
  go_loop [5] (fun i => ∃ k : Nat, i = .int .i64 (k : Int) ∧ k ≤ note.length ∧ ∀ j, j < k → note.getD j 0 ≠ 10 ∧ note.getD j 0 ≠ 41) (fun i => note.length - (intOf i).toNat)
  case atStart => exact ⟨0, rfl, Nat.zero_le _, fun j hj => by omega⟩
  case round =>
    obtain ⟨k, rfl, hk, hall⟩ := hrel
    have HA := Lib.hid hall
    clear hall
    have hn30 := HN30.out
    have hw : IntKind.i64.wrap ((k : Int) + 1) = (k : Int) + 1 := by rw [IntKind.wrap_i64]; omega
    by_cases hlt : k < note.length
    · have hlt' : (k : Int) < (note.length : Int) := by omega
      have E1 := L6.get_data note k hlt
      by_cases h10 : note.getD k 0 = 10
      · have e0 : (((⟨note.toArray⟩ : ByteArray)[k]'hlt).toNat : Int) = 10 := by rw [E1, h10]; rfl
        clear E1
        go_wp2_with (go_at_call 21; refine (CK.out _ HT.out).mono ?_; rintro e w1 ⟨rfl, hb1⟩)
        go_ret
        exact ⟨rfl, hb1⟩
      have e0 : ((((⟨note.toArray⟩ : ByteArray)[k]'hlt).toNat : Int) == 10) = false := by
        rw [E1]
        have : ¬ (note.getD k 0).toNat = 10 := fun e => h10 (UInt8.toNat_inj.1 e)
        simpa using (by omega : ¬ ((note.getD k 0).toNat : Int) = 10)
      by_cases h41 : note.getD k 0 = 41
      · have e1 : (((⟨note.toArray⟩ : ByteArray)[k]'hlt).toNat : Int) = 41 := by rw [E1, h41]; rfl
        clear E1
        go_wp2_with (go_at_call 21; refine (CK.out _ HT.out).mono ?_; rintro e w1 ⟨rfl, hb1⟩)
        go_ret
        exact ⟨rfl, hb1⟩
      have e1 : ((((⟨note.toArray⟩ : ByteArray)[k]'hlt).toNat : Int) == 41) = false := by
        rw [E1]
        have : ¬ (note.getD k 0).toNat = 41 := fun e => h41 (UInt8.toNat_inj.1 e)
        simpa using (by omega : ¬ ((note.getD k 0).toNat : Int) = 41)
      have HX := Lib.hid (⟨h10, h41⟩ : note.getD k 0 ≠ 10 ∧ note.getD k 0 ≠ 41)
      have HLT := Lib.hid hlt
      clear E1 h10 h41
      go_wp2_with fail
      go_round
      case rel => exact ⟨k + 1, by simp, HLT.out, fun j hj => by rcases Nat.lt_succ_iff_lt_or_eq.1 hj with hj | rfl
                                                                 · exact HA.out j hj
                                                                 · exact HX.out⟩
      case measure => have := HLT.out; simp [intOf]; omega
    · have hlt' : ¬ (k : Int) < (note.length : Int) := by omega
      have HN10 := Lib.hid (show 10 ∉ note from fun e => by
        obtain ⟨j, hj, e⟩ := List.mem_iff_getElem.1 e
        have := (HA.out j (by omega)).1
        rw [List.getD, List.getElem?_eq_getElem hj] at this
        exact this e)
      have HN41 := Lib.hid (show 41 ∉ note from fun e => by
        obtain ⟨j, hj, e⟩ := List.mem_iff_getElem.1 e
        have := (HA.out j (by omega)).2
        rw [List.getD, List.getElem?_eq_getElem hj] at this
        exact this e)
      clear hlt
      go_wp2_with fail
      go_loop [6, 7, 8] (fun a b i => ∃ k : Nat, i = .int .i64 (k : Int) ∧ k ≤ l.length ∧ a = .string ⟨(Xc.plainT (l.take k)).toArray⟩ ∧ b = .string ⟨(Xc.fullT note (l.take k)).toArray⟩ ∧ (∀ x ∈ l.take k, Xc.Fine x) ∧ (∀ x ∈ l.take k, x.length ≤ 31)) (fun _ _ i => l.length - (intOf i).toNat)
      case atStart => exact ⟨0, rfl, Nat.zero_le _, by rw [List.take_zero]; rfl, by rw [List.take_zero]; rfl, fun x hx => by simp at hx, fun x hx => by simp at hx⟩
      case round =>
        obtain ⟨i, rfl, hi, rfl, rfl, hfine, hlen⟩ := hrel
        have HF := Lib.hid hfine
        have HLEN := Lib.hid hlen
        clear hfine hlen
        by_cases hil : i < l.length
        · have hil' : (i : Int) < (l.length : Int) := by omega
          have hl60 := HL60.out
          have hw2 : IntKind.i64.wrap ((i : Int) + 1) = (i : Int) + 1 := by rw [IntKind.wrap_i64]; omega
          obtain ⟨g, off, c2, e2, hg, hc⟩ := HH.out.at hil
          injection e2 with e21 e22 e23
          subst e21 e23
          have HMEM := Lib.hid (show l.getD i [] ∈ l from by rw [List.getD, List.getElem?_eq_getElem hil]; exact List.getElem_mem hil)
          have HYM := Lib.hid (HLM.out _ HMEM.out)
          have HIL := Lib.hid hil
          have HPS := Lib.hid (Xc.plainT_snoc hil)
          have HFS := Lib.hid (Xc.fullT_snoc (note := note) hil)
          have HTS := Lib.hid (L6.take_snoc hil)
          have hpl := Xc.plainT_len _ HLEN.out
          have hfl := Xc.fullT_len HN30.out _ HLEN.out
          have htk : (l.take i).length ≤ 60 := by rw [List.length_take]; omega
          have CR := Lib.hid (fun W => xright_ref ⟨(l.getD i []).toArray⟩ W (by have := HYM.out; simpa [ByteArray.size] using this))
          generalize hy : l.getD i [] = y at *
          clear hy
          generalize Xc.plainT (l.take i) = p0 at *
          generalize Xc.fullT note (l.take i) = f0 at *
          by_cases hr : Nm.right y = true
          · obtain ⟨r1, r2, r3⟩ := Nm.right_gap hr
            have CR := Lib.hid (fun W => (CR.out W).mono (R' := fun e w' => e = .returned (.bool true) ∧ W = w') (fun e w' h => ⟨by rw [h.1]; exact congrArg (fun x => Ending.returned (.bool x)) (by simpa using hr), h.2⟩))
            clear hr
            by_cases tnote : y = [92]
            · subst tnote
              go_wp2_with (first | (go_at_call 22; refine (CR.out _).mono ?_; rintro e w' ⟨rfl, rfl⟩) | (go_at_call 21; refine (CK.out _ HT.out).mono ?_; rintro e w1 ⟨rfl, hb1⟩))
              go_ret
              exact ⟨rfl, hb1⟩
            have gnote : (y == [92]) = false := by simpa using tnote
            by_cases topn : y = [40]
            · subst topn
              go_wp2_with (first | (go_at_call 22; refine (CR.out _).mono ?_; rintro e w' ⟨rfl, rfl⟩) | (go_at_call 21; refine (CK.out _ HT.out).mono ?_; rintro e w1 ⟨rfl, hb1⟩))
              go_ret
              exact ⟨rfl, hb1⟩
            have gopn : (y == [40]) = false := by simpa using topn
            by_cases tasm : y = [65, 83, 77]
            · subst tasm
              go_wp2_with (first | (go_at_call 22; refine (CR.out _).mono ?_; rintro e w' ⟨rfl, rfl⟩) | (go_at_call 21; refine (CK.out _ HT.out).mono ?_; rintro e w1 ⟨rfl, hb1⟩))
              go_ret
              exact ⟨rfl, hb1⟩
            have gasm : (y == [65, 83, 77]) = false := by simpa using tasm
            by_cases tendasm : y = [69, 78, 68, 65, 83, 77]
            · subst tendasm
              go_wp2_with (first | (go_at_call 22; refine (CR.out _).mono ?_; rintro e w' ⟨rfl, rfl⟩) | (go_at_call 21; refine (CK.out _ HT.out).mono ?_; rintro e w1 ⟨rfl, hb1⟩))
              go_ret
              exact ⟨rfl, hb1⟩
            have gendasm : (y == [69, 78, 68, 65, 83, 77]) = false := by simpa using tendasm
            by_cases ttext : y = [83, 34]
            · subst ttext
              go_wp2_with (first | (go_at_call 22; refine (CR.out _).mono ?_; rintro e w' ⟨rfl, rfl⟩) | (go_at_call 21; refine (CK.out _ HT.out).mono ?_; rintro e w1 ⟨rfl, hb1⟩))
              go_ret
              exact ⟨rfl, hb1⟩
            have gtext : (y == [83, 34]) = false := by simpa using ttext
            have HFN := Lib.hid (show Xc.Fine y from ⟨r1, r2, tnote, topn, ttext, tasm⟩)
            have HR3 := Lib.hid r3
            have CT := Lib.hid (fun W => xtaker_any y W)
            have hzl := Xc.plainL_len r3
            have hn30 := HN30.out
            clear r1 r2 r3 tnote topn ttext tasm tendasm
            cases ht : Xc.taker y
            · have CT := Lib.hid (fun W => (CT.out W).mono (R' := fun e w' => e = .returned (.bool false) ∧ W = w') (fun e w' h => ⟨by rw [h.1, ht], h.2⟩))
              have HZ := Lib.hid (show Xc.plainL y = y from by unfold Xc.plainL; rw [if_neg (by rw [ht]; decide)])
              rw [HZ.out] at hzl
              clear ht
              have HPS2 := HPS.out
              have HFS2 := HFS.out
              unfold Xc.fullL at HFS2
              rw [HZ.out] at HPS2 HFS2
              clear HPS HFS
              generalize y = z at *
              obtain ⟨p1, hp1⟩ : ∃ p1, p0 ++ z = p1 := ⟨_, rfl⟩
              have ep1 : (⟨p0.toArray⟩ : ByteArray) ++ ⟨z.toArray⟩ = ⟨p1.toArray⟩ := by rw [← hp1]; exact app_eq p0 z
              have np1 : p1.length = p0.length + z.length := by rw [← hp1, List.length_append] <;> rfl
              have bp1 : ¬ 9223372036854775807 < p0.length + z.length := by omega
              obtain ⟨p2, hp2⟩ : ∃ p2, p1 ++ [10] = p2 := ⟨_, rfl⟩
              have ep2 : (⟨p1.toArray⟩ : ByteArray) ++ ⟨#[10]⟩ = ⟨p2.toArray⟩ := by rw [← hp2]; exact app_eq p1 [10]
              have np2 : p2.length = p1.length + 1 := by rw [← hp2, List.length_append] <;> rfl
              have bp2 : ¬ 9223372036854775807 < p1.length + 1 := by omega
              obtain ⟨f1, hf1⟩ : ∃ f1, f0 ++ [9] = f1 := ⟨_, rfl⟩
              have ef1 : (⟨f0.toArray⟩ : ByteArray) ++ ⟨#[9]⟩ = ⟨f1.toArray⟩ := by rw [← hf1]; exact app_eq f0 [9]
              have nf1 : f1.length = f0.length + 1 := by rw [← hf1, List.length_append] <;> rfl
              have bf1 : ¬ 9223372036854775807 < f0.length + 1 := by omega
              obtain ⟨f2, hf2⟩ : ∃ f2, f1 ++ z = f2 := ⟨_, rfl⟩
              have ef2 : (⟨f1.toArray⟩ : ByteArray) ++ ⟨z.toArray⟩ = ⟨f2.toArray⟩ := by rw [← hf2]; exact app_eq f1 z
              have nf2 : f2.length = f1.length + z.length := by rw [← hf2, List.length_append] <;> rfl
              have bf2 : ¬ 9223372036854775807 < f1.length + z.length := by omega
              obtain ⟨f3, hf3⟩ : ∃ f3, f2 ++ [32, 40, 32] = f3 := ⟨_, rfl⟩
              have ef3 : (⟨f2.toArray⟩ : ByteArray) ++ ⟨#[32, 40, 32]⟩ = ⟨f3.toArray⟩ := by rw [← hf3]; exact app_eq f2 [32, 40, 32]
              have nf3 : f3.length = f2.length + 3 := by rw [← hf3, List.length_append] <;> rfl
              have bf3 : ¬ 9223372036854775807 < f2.length + 3 := by omega
              obtain ⟨f4, hf4⟩ : ∃ f4, f3 ++ note = f4 := ⟨_, rfl⟩
              have ef4 : (⟨f3.toArray⟩ : ByteArray) ++ ⟨note.toArray⟩ = ⟨f4.toArray⟩ := by rw [← hf4]; exact app_eq f3 note
              have nf4 : f4.length = f3.length + note.length := by rw [← hf4, List.length_append] <;> rfl
              have bf4 : ¬ 9223372036854775807 < f3.length + note.length := by omega
              obtain ⟨f5, hf5⟩ : ∃ f5, f4 ++ [41, 32, 92, 32] = f5 := ⟨_, rfl⟩
              have ef5 : (⟨f4.toArray⟩ : ByteArray) ++ ⟨#[41, 32, 92, 32]⟩ = ⟨f5.toArray⟩ := by rw [← hf5]; exact app_eq f4 [41, 32, 92, 32]
              have nf5 : f5.length = f4.length + 4 := by rw [← hf5, List.length_append] <;> rfl
              have bf5 : ¬ 9223372036854775807 < f4.length + 4 := by omega
              obtain ⟨f6, hf6⟩ : ∃ f6, f5 ++ note = f6 := ⟨_, rfl⟩
              have ef6 : (⟨f5.toArray⟩ : ByteArray) ++ ⟨note.toArray⟩ = ⟨f6.toArray⟩ := by rw [← hf6]; exact app_eq f5 note
              have nf6 : f6.length = f5.length + note.length := by rw [← hf6, List.length_append] <;> rfl
              have bf6 : ¬ 9223372036854775807 < f5.length + note.length := by omega
              obtain ⟨f7, hf7⟩ : ∃ f7, f6 ++ [10] = f7 := ⟨_, rfl⟩
              have ef7 : (⟨f6.toArray⟩ : ByteArray) ++ ⟨#[10]⟩ = ⟨f7.toArray⟩ := by rw [← hf7]; exact app_eq f6 [10]
              have nf7 : f7.length = f6.length + 1 := by rw [← hf7, List.length_append] <;> rfl
              have bf7 : ¬ 9223372036854775807 < f6.length + 1 := by omega
              have HP2 := Lib.hid (show p0 ++ (z ++ [10]) = p2 from by rw [← hp2, ← hp1, List.append_assoc])
              have HF7 := Lib.hid (show f0 ++ (9 :: (z ++ 32 :: Xc.tailL note) ++ [10]) = f7 from by rw [← hf7, ← hf6, ← hf5, ← hf4, ← hf3, ← hf2, ← hf1]; simp [Xc.tailL])
              rw [HP2.out] at HPS2
              rw [HF7.out] at HFS2
              have HPS3 := Lib.hid HPS2
              have HFS3 := Lib.hid HFS2
              clear HPS2 HFS2 hp1 hp2 hf1 hf2 hf3 hf4 hf5 hf6 hf7 np1 np2 nf1 nf2 nf3 nf4 nf5 nf6 nf7 HP2 HF7 hpl hfl htk
              go_wp2_with (first | (go_at_call 22; refine (CR.out _).mono ?_; rintro e w' ⟨rfl, rfl⟩) | (go_at_call 23; refine (CT.out _).mono ?_; rintro e w' ⟨rfl, rfl⟩))
              go_round
              case rel =>
                refine ⟨i + 1, by simp, HIL.out, by rw [HPS3.out], by rw [HFS3.out], fun x hx => ?_, fun x hx => ?_⟩
                · rw [HTS.out] at hx
                  rcases List.mem_append.1 hx with hx | hx
                  · exact HF.out x hx
                  · rw [List.mem_singleton.1 hx]; exact HFN.out
                · rw [HTS.out] at hx
                  rcases List.mem_append.1 hx with hx | hx
                  · exact HLEN.out x hx
                  · rw [List.mem_singleton.1 hx]; exact HR3.out
              case measure => have := HIL.out; simp [intOf]; omega
            · have CT := Lib.hid (fun W => (CT.out W).mono (R' := fun e w' => e = .returned (.bool true) ∧ W = w') (fun e w' h => ⟨by rw [h.1, ht], h.2⟩))
              have HZ := show Xc.plainL y = y ++ [32, 78, 65, 77, 69] from by unfold Xc.plainL; rw [if_pos ht]; rfl
              have HPS2 := HPS.out
              have HFS2 := HFS.out
              unfold Xc.fullL at HFS2
              clear HPS HFS ht
              obtain ⟨z, hz⟩ : ∃ z, Xc.plainL y = z := ⟨_, rfl⟩
              rw [hz] at HZ HPS2 HFS2 hzl
              have ez : (⟨y.toArray⟩ : ByteArray) ++ ⟨#[32, 78, 65, 77, 69]⟩ = ⟨z.toArray⟩ := by rw [HZ]; exact app_eq y [32, 78, 65, 77, 69]
              have bz : ¬ 9223372036854775807 < y.length + 5 := by have := HR3.out; omega
              clear hz HZ
              obtain ⟨p1, hp1⟩ : ∃ p1, p0 ++ z = p1 := ⟨_, rfl⟩
              have ep1 : (⟨p0.toArray⟩ : ByteArray) ++ ⟨z.toArray⟩ = ⟨p1.toArray⟩ := by rw [← hp1]; exact app_eq p0 z
              have np1 : p1.length = p0.length + z.length := by rw [← hp1, List.length_append] <;> rfl
              have bp1 : ¬ 9223372036854775807 < p0.length + z.length := by omega
              obtain ⟨p2, hp2⟩ : ∃ p2, p1 ++ [10] = p2 := ⟨_, rfl⟩
              have ep2 : (⟨p1.toArray⟩ : ByteArray) ++ ⟨#[10]⟩ = ⟨p2.toArray⟩ := by rw [← hp2]; exact app_eq p1 [10]
              have np2 : p2.length = p1.length + 1 := by rw [← hp2, List.length_append] <;> rfl
              have bp2 : ¬ 9223372036854775807 < p1.length + 1 := by omega
              obtain ⟨f1, hf1⟩ : ∃ f1, f0 ++ [9] = f1 := ⟨_, rfl⟩
              have ef1 : (⟨f0.toArray⟩ : ByteArray) ++ ⟨#[9]⟩ = ⟨f1.toArray⟩ := by rw [← hf1]; exact app_eq f0 [9]
              have nf1 : f1.length = f0.length + 1 := by rw [← hf1, List.length_append] <;> rfl
              have bf1 : ¬ 9223372036854775807 < f0.length + 1 := by omega
              obtain ⟨f2, hf2⟩ : ∃ f2, f1 ++ z = f2 := ⟨_, rfl⟩
              have ef2 : (⟨f1.toArray⟩ : ByteArray) ++ ⟨z.toArray⟩ = ⟨f2.toArray⟩ := by rw [← hf2]; exact app_eq f1 z
              have nf2 : f2.length = f1.length + z.length := by rw [← hf2, List.length_append] <;> rfl
              have bf2 : ¬ 9223372036854775807 < f1.length + z.length := by omega
              obtain ⟨f3, hf3⟩ : ∃ f3, f2 ++ [32, 40, 32] = f3 := ⟨_, rfl⟩
              have ef3 : (⟨f2.toArray⟩ : ByteArray) ++ ⟨#[32, 40, 32]⟩ = ⟨f3.toArray⟩ := by rw [← hf3]; exact app_eq f2 [32, 40, 32]
              have nf3 : f3.length = f2.length + 3 := by rw [← hf3, List.length_append] <;> rfl
              have bf3 : ¬ 9223372036854775807 < f2.length + 3 := by omega
              obtain ⟨f4, hf4⟩ : ∃ f4, f3 ++ note = f4 := ⟨_, rfl⟩
              have ef4 : (⟨f3.toArray⟩ : ByteArray) ++ ⟨note.toArray⟩ = ⟨f4.toArray⟩ := by rw [← hf4]; exact app_eq f3 note
              have nf4 : f4.length = f3.length + note.length := by rw [← hf4, List.length_append] <;> rfl
              have bf4 : ¬ 9223372036854775807 < f3.length + note.length := by omega
              obtain ⟨f5, hf5⟩ : ∃ f5, f4 ++ [41, 32, 92, 32] = f5 := ⟨_, rfl⟩
              have ef5 : (⟨f4.toArray⟩ : ByteArray) ++ ⟨#[41, 32, 92, 32]⟩ = ⟨f5.toArray⟩ := by rw [← hf5]; exact app_eq f4 [41, 32, 92, 32]
              have nf5 : f5.length = f4.length + 4 := by rw [← hf5, List.length_append] <;> rfl
              have bf5 : ¬ 9223372036854775807 < f4.length + 4 := by omega
              obtain ⟨f6, hf6⟩ : ∃ f6, f5 ++ note = f6 := ⟨_, rfl⟩
              have ef6 : (⟨f5.toArray⟩ : ByteArray) ++ ⟨note.toArray⟩ = ⟨f6.toArray⟩ := by rw [← hf6]; exact app_eq f5 note
              have nf6 : f6.length = f5.length + note.length := by rw [← hf6, List.length_append] <;> rfl
              have bf6 : ¬ 9223372036854775807 < f5.length + note.length := by omega
              obtain ⟨f7, hf7⟩ : ∃ f7, f6 ++ [10] = f7 := ⟨_, rfl⟩
              have ef7 : (⟨f6.toArray⟩ : ByteArray) ++ ⟨#[10]⟩ = ⟨f7.toArray⟩ := by rw [← hf7]; exact app_eq f6 [10]
              have nf7 : f7.length = f6.length + 1 := by rw [← hf7, List.length_append] <;> rfl
              have bf7 : ¬ 9223372036854775807 < f6.length + 1 := by omega
              have HP2 := Lib.hid (show p0 ++ (z ++ [10]) = p2 from by rw [← hp2, ← hp1, List.append_assoc])
              have HF7 := Lib.hid (show f0 ++ (9 :: (z ++ 32 :: Xc.tailL note) ++ [10]) = f7 from by rw [← hf7, ← hf6, ← hf5, ← hf4, ← hf3, ← hf2, ← hf1]; simp [Xc.tailL])
              rw [HP2.out] at HPS2
              rw [HF7.out] at HFS2
              have HPS3 := Lib.hid HPS2
              have HFS3 := Lib.hid HFS2
              clear HPS2 HFS2 hp1 hp2 hf1 hf2 hf3 hf4 hf5 hf6 hf7 np1 np2 nf1 nf2 nf3 nf4 nf5 nf6 nf7 HP2 HF7 hpl hfl htk
              go_wp2_with (first | (go_at_call 22; refine (CR.out _).mono ?_; rintro e w' ⟨rfl, rfl⟩) | (go_at_call 23; refine (CT.out _).mono ?_; rintro e w' ⟨rfl, rfl⟩))
              go_round
              case rel =>
                refine ⟨i + 1, by simp, HIL.out, by rw [HPS3.out], by rw [HFS3.out], fun x hx => ?_, fun x hx => ?_⟩
                · rw [HTS.out] at hx
                  rcases List.mem_append.1 hx with hx | hx
                  · exact HF.out x hx
                  · rw [List.mem_singleton.1 hx]; exact HFN.out
                · rw [HTS.out] at hx
                  rcases List.mem_append.1 hx with hx | hx
                  · exact HLEN.out x hx
                  · rw [List.mem_singleton.1 hx]; exact HR3.out
              case measure => have := HIL.out; simp [intOf]; omega
          · have hr : Nm.right y = false := by simpa using hr
            have CR := Lib.hid (fun W => (CR.out W).mono (R' := fun e w' => e = .returned (.bool false) ∧ W = w') (fun e w' h => ⟨by rw [h.1]; exact congrArg (fun x => Ending.returned (.bool x)) (by simpa using hr), h.2⟩))
            clear hr
            go_wp2_with (first | (go_at_call 22; refine (CR.out _).mono ?_; rintro e w' ⟨rfl, rfl⟩) | (go_at_call 21; refine (CK.out _ HT.out).mono ?_; rintro e w1 ⟨rfl, hb1⟩))
            go_ret
            exact ⟨rfl, hb1⟩
        · obtain rfl : i = l.length := by omega
          have hil' : ¬ ((l.length : Int) < (l.length : Int)) := by omega
          rw [List.take_of_length_le (Nat.le_refl _)] at *
          have hpl := Xc.plainT_len _ HLEN.out
          have hfl := Xc.fullT_len HN30.out _ HLEN.out
          have hl60 := HL60.out
          obtain ⟨n1, n2⟩ := Xc.notes_law (tag := [76]) HN41.out HN10.out l HF.out
          obtain ⟨r, hr⟩ := Option.isSome_iff_exists.1 n2
          have C1 := Lib.hid (fun W (hT : L6.Tab W) => (xcompile_any (Xc.plainT l) W (by omega) hT (by rw [hr]; intro h; cases h)).mono (R' := fun e w' => e = .returned (.tuple #[.string ⟨r.1.toArray⟩, .int .i64 (r.2.1 : Int), .int .i64 (r.2.2 : Int)]) ∧ Below W.heap.size W w') (by
            rintro e w' ⟨⟨r', hr', he⟩, h2⟩
            rw [hr] at hr'
            injection hr' with hr'
            subst hr'
            exact ⟨he, h2⟩))
          have C2 := Lib.hid (fun W (hT : L6.Tab W) => (xcompile_any (Xc.fullT note l) W (by omega) hT (by rw [n1, hr]; intro h; cases h)).mono (R' := fun e w' => e = .returned (.tuple #[.string ⟨r.1.toArray⟩, .int .i64 (r.2.1 : Int), .int .i64 (r.2.2 : Int)]) ∧ Below W.heap.size W w') (by
            rintro e w' ⟨⟨r', hr', he⟩, h2⟩
            rw [n1, hr] at hr'
            injection hr' with hr'
            subst hr'
            exact ⟨he, h2⟩))
          clear hr n1 n2 hpl hfl
          obtain ⟨ra, rb, rc⟩ := r
          dsimp only at C1 C2
          generalize Xc.plainT l = p0 at *
          generalize Xc.fullT note l = f0 at *
          go_wp2_with (first
            | (go_at_call 24; with_reducible refine (C1.out _ HT.out).mono ?_; rintro e w1 ⟨rfl, hb1⟩; have HB1 := Lib.hid hb1; clear hb1)
            | (go_at_call 24; with_reducible refine (C2.out _ (HT.out.kept HB1.out)).mono ?_; rintro e w2 ⟨rfl, hb2⟩; have HB2 := Lib.hid (HB1.out.trans (hb2.mono HB1.out.size)); clear hb2)
            | (go_at_call 25; refine (xnum_any _ _).mono ?_; rintro e w' ⟨rfl, rfl⟩)
            | (go_at_call 21; refine (CK.out _ (HT.out.kept HB2.out)).mono ?_; rintro e w3 ⟨rfl, hb3⟩))
          go_ret
          exact ⟨rfl, HB2.out.trans (hb3.mono HB2.out.size)⟩
set_option maxRecDepth 100000 in
theorem open_textsV {H : Type} {enc : TypeId × Value → H} {w : World} {b0 : Nat} {v : Value} {d : DataW H} {p : List MemPlace} (hv : Value.okWide Tryd.prog w .any b0 39 v)
    (h : DataW.Trod enc Tryd.prog w 0 (fun _ => true) true 39 v d p) (hw : Fits Tryd.prog 39 d) : ∃ l, RdS w v l ∧ L6.Texts l := by
  obtain ⟨a0, len, cap, rfl⟩ := Go.WideShapes.okWide_slice Tryd.underlying39 hv
  obtain ⟨fuel, hf⟩ := h
  exact open_texts (by simpa [Value.cells] using hf) hw
theorem walk_crossNotes (v : Value) (l : List (List UInt8)) (s : ByteArray) (w : World) (h : RdS w v l ∧ L6.Texts l) (hn : s.size ≤ maxLen) (hL : laidMetH Tryd.prog Rows.crossNotesRow.laid w) :
    Calls Tryd.prog 6 #[v, .string s] w fun e w' => e = .returned (.bool true) ∧ Below w.heap.size w w' := by
  obtain ⟨h1, h2⟩ := h
  unfold L6.Texts at h2
  obtain ⟨h2, h3⟩ := h2
  have hlm : ∀ x ∈ l, x.length ≤ maxLen := fun x hx => by have := h3 x hx; unfold maxLen; omega
  have hn' : s.data.toList.length ≤ maxLen := by simpa using hn
  have := core_crossNotes v l s.data.toList w h1 h2 hlm hn' (L6.tab_of hL)
  simpa using this
end Go.Proofs.YtfafdkbnmfpbmaaDoor
