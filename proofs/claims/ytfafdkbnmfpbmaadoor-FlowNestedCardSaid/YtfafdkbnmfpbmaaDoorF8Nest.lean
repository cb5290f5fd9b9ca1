/- The walk of the law FlowNested. -/
import Derived.Test.YtfafdkbnmfpbmaaDoorF8Num
namespace Go.Proofs.YtfafdkbnmfpbmaaDoor
open Go.RowKit Kit
set_option linter.unusedVariables false
set_option linter.unusedSimpArgs false

theorem F8.any_none {l : List (List UInt8)} (h : ∀ j, j < l.length → F8.made (l.getD j []) = false) : l.any F8.made = false := by
  rw [List.any_eq_false]
  intro s hs
  obtain ⟨i, hi, rfl⟩ := List.mem_iff_getElem.1 hs
  have := h i hi
  rw [List.getD, List.getElem?_eq_getElem hi] at this
  simpa using this
theorem LinesRd.app {w : World} : ∀ {a b : List L6.Line} {ca cb : List Value}, LinesRd w a ca → LinesRd w b cb → LinesRd w (a ++ b) (ca ++ cb)
  | [], _, _, _, h, h' => by
    have h : _ = [] := h
    subst h
    exact h'
  | _ :: _, _, _, _, ⟨vl, va, r, e, h1, h2, h3⟩, h' => by subst e; exact ⟨vl, va, _, rfl, h1, h2, LinesRd.app h3 h'⟩
theorem LinesRd.one {w : World} : ∀ {a : List L6.Line} {ca : List Value}, LinesRd w a ca → ∀ u ∈ ca, u.oneCell' = true
  | [], _, h, u, hu => by
    have h : _ = [] := h
    subst h
    simp at hu
  | _ :: _, _, ⟨vl, va, r, e, h1, h2, h3⟩, u, hu => by
    subst e
    obtain ⟨A1, c1, rfl⟩ := h1.form
    obtain ⟨A2, c2, rfl⟩ := h2.form
    simp only [List.mem_cons] at hu
    rcases hu with rfl | rfl | rfl | hu
    · rfl
    · rfl
    · rfl
    · exact LinesRd.one h3 u hu
/-- A line of one word alone. -/
def F8.lone (s : List UInt8) : Array Value := #[.slice none 0 0, .string ⟨s.toArray⟩, .slice none 0 0]
theorem F8.lone_own (w : World) (s : List UInt8) : (w.alloc (.cells #[.slice none 0 0, .string ⟨s.toArray⟩, .slice none 0 0] 42)).ownsRow w.heap.size 42 3 (.slice (some ⟨w.heap.size, 0, none⟩) 1 1) 1 [.slice none 0 0, .string ⟨s.toArray⟩, .slice none 0 0] :=
  ⟨rfl, .inr ⟨w.heap.size, 1, _, rfl, Nat.le_refl _, heap_alloc_new w _, Nat.le_refl _, by unfold maxLen; omega, rfl, rfl⟩⟩
theorem F8.lone_src (w : World) (s : List UInt8) : Src Tryd.prog 3 25 (.slice (some ⟨w.heap.size, 0, none⟩) 1 1) 1 [.slice none 0 0, .string ⟨s.toArray⟩, .slice none 0 0] (w.alloc (.cells #[.slice none 0 0, .string ⟨s.toArray⟩, .slice none 0 0] 42)) :=
  Rd.src llrt (Rd.built (Bk.fresh w _ #[.slice none 0 0, .string ⟨s.toArray⟩, .slice none 0 0]) rfl) (by intro u hu; simp at hu; rcases hu with rfl | rfl | rfl <;> rfl)
theorem F8.lone_rd (w : World) (s : List UInt8) : LinesRd w [⟨[], s, []⟩] [.slice none 0 0, .string ⟨s.toArray⟩, .slice none 0 0] := ⟨_, _, _, rfl, (OwnS.nil 0 w).rd, (OwnS.nil 0 w).rd, rfl⟩
theorem F8.two_boxes (w : World) (a b : Array Value) (T : TypeId) : Bk ((w.alloc (.cells a T)).alloc (.cells b T)).drew w.heap.size T a ∧ Bk ((w.alloc (.cells a T)).alloc (.cells b T)).drew (w.heap.size + 1) T b ∧ Below w.heap.size w ((w.alloc (.cells a T)).alloc (.cells b T)).drew := by
  have h1 : Bk ((w.alloc (.cells a T)).alloc (.cells b T)) w.heap.size T a := (Bk.fresh w _ _).kept ((Below.refl _ _).alloc (Nat.le_refl _) _)
  have h2 := Bk.fresh (w.alloc (.cells a T)) T b
  rw [World.size_alloc] at h2
  exact ⟨h1, h2, (((Below.refl _ _).alloc (Nat.le_refl _) _).alloc (by simp) _).drew⟩
theorem F8.made_ne {c : UInt8} {t : List UInt8} : F8.made (c :: t) = (c == 64) := rfl
theorem F8.nest_rd {w6 : World} {base : Nat} {v6 : Value} {ls : List L6.Line} {cs : List Value} (ho : w6.ownsRow base 42 3 v6 (1 + ls.length + 1) ([.slice none 0 0, .string ⟨#[98, 101, 103, 105, 110]⟩, .slice none 0 0] ++ cs ++ [.slice none 0 0, .string ⟨#[97, 103, 97, 105, 110]⟩, .slice none 0 0])) (hcs : LinesRd w6 ls cs) : RdL w6 v6 (F8.begin_ :: ls ++ [F8.again_]) := by
  have h1 := Rd.of_own ho
  have e : 1 + ls.length + 1 = (F8.begin_ :: ls ++ [F8.again_]).length := by simp; omega
  rw [e] at h1
  exact ⟨_, h1, LinesRd.app (LinesRd.app (F8.lone_rd w6 F8.wBegin) hcs) (F8.lone_rd w6 F8.wAgain)⟩
set_option maxRecDepth 100000 in
set_option maxHeartbeats 16000000 in
theorem core_flowNested (v : Value) (ls : List L6.Line) (w : World) (h : RdL w v ls) (hs : L6.Small ls) (hT : L6.Tab w) :
    Calls Tryd.prog 5 #[v] w fun e w' => e = .returned (.bool true) ∧ Below w.heap.size w w' := by
  have CK := Lib.hid (fun W (hT : L6.Tab W) => fknows_any W hT)
  have CL := Lib.hid (llight_any v ls w h hs)
  have HH := Lib.hid h
  have HT := Lib.hid hT
  obtain ⟨A, c, rfl⟩ := h.form
  clear h hs hT
  go_enter Tryd.func5, Tryd.ntmps5
  go_wp2_with (go_at_call 9; refine CL.out.mono ?_)
  rintro e w0 ⟨b, rfl, hwt, hb0⟩
  have HB0 := Lib.hid hb0
  clear hb0
  cases b
  · go_wp2_with (go_at_call 10; refine (CK.out _ (HT.out.kept HB0.out)).mono ?_; rintro e w1 ⟨rfl, hb1⟩)
    go_ret
    exact ⟨rfl, HB0.out.trans (hb1.mono HB0.out.size)⟩
  have hW := hwt rfl
  have hsm := F8.small_of hW
  have HLL := Lib.hid hsm.1
  have HFIT := Lib.hid (F8.fit_of hW)
  have HAL := Lib.hid (fun x hx => (hsm.2 x hx).2.1)
  have HLB := Lib.hid (fun x hx => (hsm.2 x hx).1)
  clear hwt hW hsm
  go_wp2_with fail
  go_loop [3] (fun i => ∃ k : Nat, i = .int .i64 (k : Int) ∧ k ≤ ls.length ∧ ∀ x ∈ ls.take k, x.args.any F8.made = false) (fun i => ls.length - (intOf i).toNat)
  case atStart => exact ⟨0, rfl, Nat.zero_le _, fun x hx => by simp at hx⟩
  case round =>
    obtain ⟨k, rfl, hk, hno⟩ := hrel
    have HN := Lib.hid hno
    clear hno
    by_cases hlt : k < ls.length
    · have hlt' : (k : Int) < (ls.length : Int) := by omega
      have hw1 : IntKind.i64.wrap ((k : Int) + 1) = (k : Int) + 1 := by have := HLL.out; rw [IntKind.wrap_i64]; omega
      obtain ⟨g, off, c', va1, va2, e, hg, c0, c1, c2, r1, r2⟩ := HH.out.at hlt
      injection e with e1 e2 e3
      subst e1 e3
      have HLT := Lib.hid (show k + 1 ≤ ls.length from hlt)
      have hal := HAL.out _ (List.getElem_mem hlt)
      have HTS := Lib.hid (lines_take hlt)
      generalize ls[k] = X at *
      obtain ⟨xl, xw, xa⟩ := X
      obtain ⟨B2, cc2, rfl⟩ := r2.form
      dsimp only at c2 r2 hal
      have HR2 := Lib.hid r2
      have HFA := Lib.hid hal
      have q2 : w0.cell? ⟨g, off + k * 3 + 2, none⟩ = some (.slice B2 xa.length cc2) := (HB0.out.cell (p := ⟨g, _, none⟩) hg).trans c2
      clear c0 c1 c2 r1 r2 hal
      go_wp2_with fail
      go_loop [4] (fun i => ∃ j : Nat, i = .int .i64 (j : Int) ∧ j ≤ xa.length ∧ ∀ m, m < j → F8.made (xa.getD m []) = false) (fun i => xa.length - (intOf i).toNat)
      case atStart => exact ⟨0, rfl, Nat.zero_le _, fun m hm => absurd hm (by omega)⟩
      case round =>
        obtain ⟨j, rfl, hj, hno⟩ := hrel
        have HNJ := Lib.hid hno
        clear hno
        by_cases hjl : j < xa.length
        · have hjl' : (j : Int) < (xa.length : Int) := by omega
          have hwj : IntKind.i64.wrap ((j : Int) + 1) = (j : Int) + 1 := by have := HFA.out; rw [IntKind.wrap_i64]; omega
          obtain ⟨gl, ofl, cl, e, hgl, hcl⟩ := HR2.out.at hjl
          injection e with e1 e2 e3
          subst e1 e3
          have hcr : w0.cell? ⟨gl, ofl + j, none⟩ = some (.string ⟨(xa.getD j []).toArray⟩) := (HB0.out.cell (p := ⟨gl, ofl + j, none⟩) hgl).trans hcl
          have HJL := Lib.hid (show j + 1 ≤ xa.length from hjl)
          have HNK := Lib.hid (fun (h : F8.made (xa.getD j []) = false) m (hm : m < j + 1) => show F8.made (xa.getD m []) = false from by
            by_cases e : m = j
            · rw [e]; exact h
            · exact HNJ.out m (by omega))
          clear hcl hjl
          generalize xa.getD j [] = y at *
          cases y with
          | nil =>
            have HK := Lib.hid (HNK.out rfl)
            go_wp2_with fail
            go_round
            case rel => exact ⟨j + 1, by simp, HJL.out, HK.out⟩
            case measure => have := HJL.out; simp [intOf]; omega
          | cons cb tb =>
            have h0 : 0 < (cb :: tb).length := by simp
            have hpos : (0 : Int) < ((cb :: tb).length : Int) := by rw [List.length_cons]; omega
            have e64 : ((((⟨(cb :: tb).toArray⟩ : ByteArray)[0]'h0).toNat : Int) == 64) = (cb == 64) := by rw [L6.get_data (cb :: tb) 0 h0]; exact byte_eq _ 64
            have hne : ((cb :: tb : List UInt8) != []) = true := by simp
            rw [F8.made_ne] at HNK
            cases hc : (cb == 64)
            · rw [hc] at e64
              have HK := Lib.hid (HNK.out hc)
              clear hc HNK
              go_wp2_with fail
              go_round
              case rel => exact ⟨j + 1, by simp, HJL.out, HK.out⟩
              case measure => have := HJL.out; simp [intOf]; omega
            · rw [hc] at e64
              clear hc HNK
              go_wp2_with (go_at_call 10; refine (CK.out _ (HT.out.kept HB0.out)).mono ?_; rintro e w1 ⟨rfl, hb1⟩)
              go_ret
              exact ⟨rfl, HB0.out.trans (hb1.mono HB0.out.size)⟩
        · obtain rfl : j = xa.length := by omega
          have HE := Lib.hid (show ∀ x ∈ ls.take (k + 1), x.args.any F8.made = false from fun x hx => by
            rw [HTS.out] at hx
            rcases List.mem_append.1 hx with hx | hx
            · exact HN.out x hx
            · simp only [List.mem_cons, List.not_mem_nil, or_false] at hx
              subst hx
              exact F8.any_none HNJ.out)
          go_wp2_with fail
          go_round
          case rel => exact ⟨k + 1, by simp, HLT.out, HE.out⟩
          case measure => have := HLT.out; simp [intOf]; omega
    · obtain rfl : k = ls.length := by omega
      have hna := HN.out
      rw [List.take_length] at hna
      have HNA := Lib.hid hna
      have HF6 := Lib.hid (show ∀ x ∈ ls, x.fits from fun x hx => ⟨Nat.le_trans (HLB.out x hx) (by decide), Nat.le_trans (HAL.out x hx) (by decide)⟩)
      have CO := Lib.hid (lown_any (.slice A ls.length c) ls w0 (HH.out.kept HB0.out) (by have := HLL.out; omega) HF6.out)
      have CF := Lib.hid (fun v W (h : RdL W v ls) (hT : L6.Tab W) => fplain_any v ls W h (by have := HLL.out; omega) HFIT.out hT)
      have CG := Lib.hid (fun v W (h : RdL W v (F8.begin_ :: ls ++ [F8.again_])) (hT : L6.Tab W) => fplain_any v (F8.begin_ :: ls ++ [F8.again_]) W h (by have := HLL.out; simp; omega) (fun x hx => by
        rcases List.mem_append.1 hx with hx | hx
        · rcases List.mem_cons.1 hx with rfl | hx
          · unfold F8.Fit F8.begin_; simp
          · exact HFIT.out x hx
        · simp only [List.mem_cons, List.not_mem_nil, or_false] at hx
          subst hx
          unfold F8.Fit F8.again_; simp) hT)
      have hlim := F8.plain_lim 3000 ls (fun x hx => ⟨HLB.out x hx, HAL.out x hx⟩)
      have HLIMA := Lib.hid hlim
      have HLAW := Lib.hid (F8.nest_law ls)
      clear hna HN hlim
      go_wp2_with (first
        | (go_at_call 11; refine CO.out.mono ?_; rintro e w1 ⟨v1, rfl, hv1, hb1⟩; have HB1 := Lib.hid (HB0.out.trans (hb1.mono HB0.out.size)); have HV1 := Lib.hid hv1; obtain ⟨A1, c1, rfl⟩ := hv1.form; clear hv1 hb1)
        | (go_at_call 12; refine (CF.out _ _ HV1.out (HT.out.kept HB1.out)).mono ?_))
      rintro e w2 ⟨v2, rfl, hv2, hb2⟩
      dsimp only at hv2 ⊢
      have HB2 := Lib.hid (HB1.out.trans (hb2.mono HB1.out.size))
      have HV2 := Lib.hid hv2.rd
      obtain ⟨cs, hcs1, hcs2⟩ := HV1.out.kept hb2
      obtain ⟨A2, c2, rfl⟩ := hv2.rd.form
      obtain ⟨w3, hw3⟩ : ∃ w3, w2.alloc (.cells #[.slice none 0 0, .string ⟨#[98, 101, 103, 105, 110]⟩, .slice none 0 0] 42) = w3 := ⟨_, rfl⟩
      have hal3 : Below w2.heap.size w2 w3 := by rw [← hw3]; exact (Below.refl _ _).alloc (Nat.le_refl _) _
      have hown3 := F8.lone_own w2 F8.wBegin
      have hsrc3 := Rd.src llrt (hcs1.kept hal3) (LinesRd.one hcs2)
      have HOWN3 := Lib.hid (show w3.ownsRow w2.heap.size 42 3 (.slice (some ⟨w2.heap.size, 0, none⟩) 1 1) 1 [.slice none 0 0, .string ⟨#[98, 101, 103, 105, 110]⟩, .slice none 0 0] from by rw [← hw3]; exact hown3)
      have HSRC3 := Lib.hid hsrc3
      have HAL3 := Lib.hid hal3
      have HCS2 := Lib.hid hcs2
      have HL1 := Lib.hid (show (1 + ls.length) * 64 ≤ 140737488355328 ∧ 1 + ls.length ≤ maxLen from by have := HLL.out; unfold maxLen; omega)
      have HL2 := Lib.hid (show (1 + ls.length + 1) * 64 ≤ 140737488355328 ∧ 1 + ls.length + 1 ≤ maxLen from by have := HLL.out; unfold maxLen; omega)
      clear hv2 hb2 hcs1 hcs2 hal3 hown3 hsrc3
      go_wp2_with (first
        | (at_builtin; refine wpList_appendRB rfl _ _ _ _ rfl llrt (by decide) w2.heap.size _ rfl 1 [.slice none 0 0, .string ⟨#[98, 101, 103, 105, 110]⟩, .slice none 0 0] HOWN3.out _ rfl ls.length cs HSRC3.out HL1.out.1 HL1.out.2 HAL3.out.size ?_; intro v4 w4 ho4 hb4 hg4 hv4; obtain ⟨A4, c4, rfl⟩ := (Rd.of_own ho4).form; obtain ⟨w5, hw5⟩ : ∃ w5, w4.alloc (.cells #[.slice none 0 0, .string ⟨#[97, 103, 97, 105, 110]⟩, .slice none 0 0] 42) = w5 := ⟨_, rfl⟩; have hal5 : Below w4.heap.size w4 w5 := hw5 ▸ ((Below.refl _ _).alloc (Nat.le_refl _) _); have HB4 := Lib.hid (HAL3.out.trans hb4); have HOWN5 := Lib.hid (own_kept ho4 hal5); have HSRC5 := Lib.hid (show Src Tryd.prog 3 25 (.slice (some ⟨w4.heap.size, 0, none⟩) 1 1) 1 [.slice none 0 0, .string ⟨#[97, 103, 97, 105, 110]⟩, .slice none 0 0] w5 from hw5 ▸ F8.lone_src w4 F8.wAgain); have HB5 := Lib.hid (HB4.out.trans (hal5.mono HB4.out.size)); clear ho4 hb4 hg4 hv4 hal5)
        | (at_builtin; refine wpList_appendRB rfl _ _ _ _ rfl llrt (by decide) w2.heap.size _ rfl (1 + ls.length) (([.slice none 0 0, .string ⟨#[98, 101, 103, 105, 110]⟩, .slice none 0 0] : List Value) ++ cs) HOWN5.out _ rfl 1 [.slice none 0 0, .string ⟨#[97, 103, 97, 105, 110]⟩, .slice none 0 0] HSRC5.out HL2.out.1 HL2.out.2 HB5.out.size ?_; intro v6 w6 ho6 hb6 hg6 hv6; obtain ⟨A6, c6, rfl⟩ := (Rd.of_own ho6).form; have HB6 := Lib.hid (HB5.out.trans hb6); have HV6 := Lib.hid (F8.nest_rd ho6 (HCS2.out.kept HB6.out)); clear ho6 hb6 hg6 hv6)
        | (go_at_call 12; refine (CG.out _ _ HV6.out (HT.out.kept (HB2.out.trans (HB6.out.mono HB2.out.size)))).mono ?_))
      rintro e w7 ⟨v7, rfl, hv7, hb7⟩
      dsimp only at hv7 ⊢
      have HB7 := Lib.hid ((HB2.out.trans (HB6.out.mono HB2.out.size)).trans (hb7.mono (Nat.le_trans HB2.out.size HB6.out.size)))
      have HV7 := Lib.hid hv7.rd
      have HV27 := Lib.hid ((HV2.out.kept HB6.out).kept hb7)
      obtain ⟨A7, c7, rfl⟩ := hv7.rd.form
      clear hv7 hb7 hw3
      obtain ⟨PL, PN, PE, hP⟩ : ∃ a b c, F8.plain ls = (a, b, c) := ⟨_, _, _, rfl⟩
      obtain ⟨QL, QN, QE, hQ⟩ : ∃ a b c, F8.plain (F8.begin_ :: ls ++ [F8.again_]) = (a, b, c) := ⟨_, _, _, rfl⟩
      rw [hP] at HV27 HLIMA
      rw [hQ] at HV7
      rw [hP, hQ]
      dsimp only at HV27 HV7 HLIMA ⊢
      by_cases hE : PE = 0
      rotate_left
      · have hne : ((PE : Int) != 0) = true := by rw [bne_iff_ne]; omega
        clear hE
        go_wp2_with (first | (go_at_call 18; refine (fnum_any _ _).mono ?_; rintro e w' ⟨rfl, rfl⟩) | (go_at_call 10; refine (CK.out _ (HT.out.kept HB7.out)).mono ?_; rintro e w9 ⟨rfl, hb9⟩))
        go_ret
        exact ⟨rfl, HB7.out.trans (hb9.mono HB7.out.size)⟩
      subst hE
      obtain ⟨bq, hq, hall⟩ := HLAW.out PL PN HNA.out hP
      rw [hQ] at hq
      injection hq with q1 q2
      injection q2 with q2 q3
      subst q1 q2 q3
      have HALL := Lib.hid hall
      have HLEN := Lib.hid hall.len
      have hNQ : (F8.at_ [] (F8.lab 0) :: bq ++ [F8.jmp [] (F8.lab 0)]).length = PL.length + 2 := by simp; have := HLEN.out; omega
      have HNQ := Lib.hid hNQ
      have HPN := Lib.hid (show PL.length ≤ 2000 from by have := HLIMA.out.2.1; have := HLL.out; omega)
      have HQL := Lib.hid (fun k (hk : k < PL.length) (h2 : k + 1 < (F8.at_ [] (F8.lab 0) :: bq ++ [F8.jmp [] (F8.lab 0)]).length) (h3 : k < bq.length) => show (F8.at_ [] (F8.lab 0) :: bq ++ [F8.jmp [] (F8.lab 0)])[k + 1] = bq[k] from by simp [List.getElem_append_left, h3])
      have hw2 : IntKind.i64.wrap ((PL.length : Int) + 2) = (PL.length : Int) + 2 := by have := HPN.out; rw [IntKind.wrap_i64]; omega
      clear hP hQ hall HLAW
      generalize F8.at_ [] (F8.lab 0) :: bq ++ [F8.jmp [] (F8.lab 0)] = QL at *
      rw [hNQ]
      clear hNQ
      go_wp2_with (go_at_call 18; refine (fnum_any _ _).mono ?_; rintro e w' ⟨rfl, rfl⟩)
      go_loopw [12] (fun i wr => ∃ k : Nat, i = .int .i64 (k : Int) ∧ k ≤ PL.length ∧ Below w7.heap.size w7 wr) (fun i _ => PL.length - (intOf i).toNat)
      case atStart => exact ⟨0, rfl, Nat.zero_le _, Below.refl _ _⟩
      case round =>
      obtain ⟨k, rfl, hk, hbw⟩ := hrel
      have HBW := Lib.hid hbw
      by_cases hlt : k < PL.length
      rotate_left
      · obtain rfl : k = PL.length := by omega
        go_wp2_with (go_at_call 10; refine (CK.out _ (HT.out.kept (HB7.out.trans (HBW.out.mono HB7.out.size)))).mono ?_; rintro e w9 ⟨rfl, hb9⟩)
        go_ret
        exact ⟨rfl, (HB7.out.trans (HBW.out.mono HB7.out.size)).trans (hb9.mono (Nat.le_trans HB7.out.size HBW.out.size))⟩
      have hlt' : (k : Int) < (PL.length : Int) := by omega
      have hlt2 : (k : Int) + 1 < (PL.length : Int) + 2 := by omega
      have hkq : k + 1 < QL.length := by have := HNQ.out; omega
      have hkb : k < bq.length := by have := HLEN.out; omega
      have hw1 : IntKind.i64.wrap ((k : Int) + 1) = (k : Int) + 1 := by have := HPN.out; rw [IntKind.wrap_i64]; omega
      have hkn : ((k : Int) + 1).toNat = k + 1 := by omega
      have hk0 : (0 : Int) ≤ (k : Int) + 1 := by omega
      have hsh := HALL.out.at k hlt hkb
      have hql := HQL.out k hlt hkq hkb
      obtain ⟨gp0, op0, kp0, vp1, vp2, ep, hgp, cp0, cp1, cp2, rp1, rp2⟩ := HV27.out.at hlt
      obtain ⟨gq0, oq0, kq0, vq1, vq2, eq, hgq, cq0, cq1, cq2, rq1, rq2⟩ := HV7.out.at hkq
      injection ep with ep1 ep2 ep3
      subst ep1 ep3
      injection eq with eq1 eq2 eq3
      rw [HNQ.out] at eq2
      subst eq1 eq3
      have hlm := HLIMA.out.1 _ (List.getElem_mem hlt)
      have HLT := Lib.hid (show k + 1 ≤ PL.length from hlt)
      rw [hql] at cq1 rq1 rq2
      clear hql
      generalize bq[k] = ql at *
      generalize PL[k] = pl at *
      have HSH := Lib.hid hsh
      have HWE := Lib.hid (show pl.word = ql.word from hsh.word)
      have HEQ1 := Lib.hid hsh.labels.len
      have HEQ2 := Lib.hid hsh.args.len
      have HLIM := Lib.hid (show pl.labels.length ≤ 10000 ∧ pl.args.length ≤ 10000 from ⟨Nat.le_trans hlm.1 (by decide), Nat.le_trans hlm.2 (by decide)⟩)
      obtain ⟨P1, pc1, rfl⟩ := rp1.form
      obtain ⟨P2, pc2, rfl⟩ := rp2.form
      obtain ⟨Q1, qc1, rfl⟩ := rq1.form
      obtain ⟨Q2, qc2, rfl⟩ := rq2.form
      have d0 : wr.cell? ⟨gp0, op0 + k * 3, none⟩ = some (.slice P1 pl.labels.length pc1) := (HBW.out.cell (p := ⟨gp0, _, none⟩) hgp).trans cp0
      have d1 : wr.cell? ⟨gp0, op0 + k * 3 + 1, none⟩ = some (.string ⟨pl.word.toArray⟩) := (HBW.out.cell (p := ⟨gp0, _, none⟩) hgp).trans cp1
      have d2 : wr.cell? ⟨gp0, op0 + k * 3 + 2, none⟩ = some (.slice P2 pl.args.length pc2) := (HBW.out.cell (p := ⟨gp0, _, none⟩) hgp).trans cp2
      have f0 : wr.cell? ⟨gq0, oq0 + (k + 1) * 3, none⟩ = some (.slice Q1 ql.labels.length qc1) := (HBW.out.cell (p := ⟨gq0, _, none⟩) hgq).trans cq0
      have f1 : wr.cell? ⟨gq0, oq0 + (k + 1) * 3 + 1, none⟩ = some (.string ⟨ql.word.toArray⟩) := (HBW.out.cell (p := ⟨gq0, _, none⟩) hgq).trans cq1
      have f2 : wr.cell? ⟨gq0, oq0 + (k + 1) * 3 + 2, none⟩ = some (.slice Q2 ql.args.length qc2) := (HBW.out.cell (p := ⟨gq0, _, none⟩) hgq).trans cq2
      have hgpr : gp0 < wr.heap.size := Nat.lt_of_lt_of_le hgp HBW.out.size
      have hgqr : gq0 < wr.heap.size := Nat.lt_of_lt_of_le hgq HBW.out.size
      have HR1 := Lib.hid (rp1.kept hbw)
      have HR2 := Lib.hid (rp2.kept hbw)
      have HR3 := Lib.hid (rq1.kept hbw)
      have HR4 := Lib.hid (rq2.kept hbw)
      clear hsh hlm cp0 cp1 cp2 cq0 cq1 cq2 rp1 rp2 rq1 rq2 hkq hkb hgp hgq hbw hlt
      go_upto_region 21 with fail
      go_cut [13, 14] (fun s13 s14 wx => ∃ gp gq, s13 = .pointer (some ⟨gp, 0, none⟩) ∧ s14 = .pointer (some ⟨gq, 0, none⟩) ∧ Bk wx gp 42 #[.slice P1 pl.labels.length pc1, .string ⟨pl.word.toArray⟩, .slice P2 pl.args.length pc2] ∧ Bk wx gq 42 #[.slice Q1 ql.labels.length qc1, .string ⟨ql.word.toArray⟩, .slice Q2 ql.args.length qc2] ∧ Below wr.heap.size wr wx)
      case first =>
        have t1 := F8.two_boxes wr #[.slice P1 pl.labels.length pc1, .string ⟨pl.word.toArray⟩, .slice P2 pl.args.length pc2] #[.slice Q1 ql.labels.length qc1, .string ⟨ql.word.toArray⟩, .slice Q2 ql.args.length qc2] 42
        have t2 := F8.two_boxes wr #[.slice Q1 ql.labels.length qc1, .string ⟨ql.word.toArray⟩, .slice Q2 ql.args.length qc2] #[.slice P1 pl.labels.length pc1, .string ⟨pl.word.toArray⟩, .slice P2 pl.args.length pc2] 42
        have T1 := Lib.hid t1
        have T2 := Lib.hid t2
        clear t1 t2
        go_region
        all_goals go_wp2_with fail
        all_goals go_meet
        all_goals first
          | exact ⟨_, _, rfl, rfl, T1.out.1, T1.out.2.1, T1.out.2.2⟩
          | exact ⟨_, _, rfl, rfl, T2.out.2.1, T2.out.1, T2.out.2.2⟩
      case rest =>
      obtain ⟨gp, gq, rfl, rfl, hbp, hbq, hbx⟩ := hcut
      have HBX := Lib.hid (fun W' (hW' : Below wc.heap.size wc W') => show (W'.cell? ⟨gp, 0, none⟩ = some (.slice P1 pl.labels.length pc1) ∧ W'.cell? ⟨gp, 1, none⟩ = some (.string ⟨pl.word.toArray⟩) ∧ W'.cell? ⟨gp, 2, none⟩ = some (.slice P2 pl.args.length pc2)) ∧ (W'.cell? ⟨gq, 0, none⟩ = some (.slice Q1 ql.labels.length qc1) ∧ W'.cell? ⟨gq, 1, none⟩ = some (.string ⟨ql.word.toArray⟩) ∧ W'.cell? ⟨gq, 2, none⟩ = some (.slice Q2 ql.args.length qc2)) from
        ⟨⟨(hbp.kept hW').cell 0, (hbp.kept hW').cell 1, (hbp.kept hW').cell 2⟩, (hbq.kept hW').cell 0, (hbq.kept hW').cell 1, (hbq.kept hW').cell 2⟩)
      have HBW2 := Lib.hid (show Below w7.heap.size w7 wc from HBW.out.trans (hbx.mono HBW.out.size))
      have HP1 := Lib.hid (HR1.out.kept hbx)
      have HP2 := Lib.hid (HR2.out.kept hbx)
      have HQ1 := Lib.hid (HR3.out.kept hbx)
      have HQ2 := Lib.hid (HR4.out.kept hbx)
      obtain ⟨⟨u0, u1, u2⟩, x0, x1, x2⟩ := HBX.out wc (Below.refl _ _)
      have g1 : ((pl.labels.length : Int) != (ql.labels.length : Int)) = false := by rw [HEQ1.out]; simp
      have g2 : ((pl.args.length : Int) != (ql.args.length : Int)) = false := by rw [HEQ2.out]; simp
      rw [← HWE.out] at x1
      clear hbp hbq hbx d0 d1 d2 f0 f1 f2 hgpr hgqr HR1 HR2 HR3 HR4
      go_wp2_with fail
      go_loopw [15] (fun i wy => ∃ j : Nat, i = .int .i64 (j : Int) ∧ j ≤ pl.labels.length ∧ Below wc.heap.size wc wy) (fun i _ => pl.labels.length - (intOf i).toNat)
      case atStart => exact ⟨0, rfl, Nat.zero_le _, Below.refl _ _⟩
      case round =>
        obtain ⟨j, rfl, hj, hby⟩ := hrel
        have HBY := Lib.hid hby
        obtain ⟨⟨r00, r01, r02⟩, r10, r11, r12⟩ := HBX.out _ hby
        by_cases hjl : j < pl.labels.length
        · have hjl' : (j : Int) < (pl.labels.length : Int) := by omega
          have hwj : IntKind.i64.wrap ((j : Int) + 1) = (j : Int) + 1 := by have := HLIM.out.1; rw [IntKind.wrap_i64]; omega
          have hjq : j < ql.labels.length := by rw [← HEQ1.out]; exact hjl
          have hjq' : (j : Int) < (ql.labels.length : Int) := by omega
          obtain ⟨gl1, o1, k1, e1, hg1, hc1⟩ := HP1.out.at hjl
          obtain ⟨gl2, o2, k2, e2, hg2, hc2⟩ := HQ1.out.at hjq
          injection e1 with e11 e12 e13
          injection e2 with e21 e22 e23
          subst e11 e13 e21 e23
          have HJL := Lib.hid (show j + 1 ≤ pl.labels.length from hjl)
          have hga : pl.labels.getD j [] = pl.labels[j] := by rw [List.getD, List.getElem?_eq_getElem hjl]; rfl
          have hgb : ql.labels.getD j [] = ql.labels[j] := by rw [List.getD, List.getElem?_eq_getElem hjq]; rfl
          have hts : F8.TSh ls.length (pl.labels.getD j []) (ql.labels.getD j []) := by rw [hga, hgb]; exact HSH.out.labels.at j hjl hjq
          have HCE := Lib.hid (fun W' (hW' : Below wc.heap.size wc W') => show W'.cell? ⟨gp, 0, none⟩ = some (.slice (some ⟨gl1, o1, none⟩) pl.labels.length pc1) ∧ W'.cell? ⟨gq, 0, none⟩ = some (.slice (some ⟨gl2, o2, none⟩) ql.labels.length qc1) ∧ W'.cell? ⟨gl1, o1 + j, none⟩ = some (.string ⟨(pl.labels.getD j []).toArray⟩) ∧ W'.cell? ⟨gl2, o2 + j, none⟩ = some (.string ⟨(ql.labels.getD j []).toArray⟩) from
            ⟨((HBX.out W' hW').1).1, ((HBX.out W' hW').2).1, (hW'.cell (p := ⟨gl1, o1 + j, none⟩) hg1).trans hc1, (hW'.cell (p := ⟨gl2, o2 + j, none⟩) hg2).trans hc2⟩)
          clear hc1 hc2 hga hgb hjl hjq
          generalize pl.labels.getD j [] = s1 at *
          generalize ql.labels.getD j [] = s2 at *
          obtain ⟨m0, m1, m2, m3⟩ := HCE.out _ hby
          rcases hts with ⟨hmd, rfl⟩ | ⟨nn, hnl, rfl, rfl⟩
          · as_aux_lemma =>
            have CN1 := Lib.hid (fun W => fnumber_none s1 W hmd)
            clear hmd
            go_wp2_with fail
            refine Kit.wp_region_class (fun W' => Below wc.heap.size wc W') (by kernel_rfl) (by kernel_rfl) (hby.drew) ?_
            repeat (first | go_big_quiet_skip | (refine BigFrame.wpQuiet_want (by rfl) (fun K hK => ?_); first | ((fail_if_success (fail_if_success (first | (refine BigFrame.quiet_move _ rfl ?_) | (refine BigFrame.quiet_assign _ rfl ?_)))); go_big_quiet_op; refine hK _ ?_; clear hK K) | (apply Exists.intro; refine ⟨fun W' hW' => ?_, hK _ ?_⟩; (obtain ⟨m0, m1, m2, m3⟩ := HCE.out W' hW'; unfold Oper.quietAt; go_simp; (first | done | (with_reducible rfl) | (exact ⟨rfl, rfl⟩) | (first | (go_at_call 20; with_reducible exact (Kit.callS (CN1.out _) hW')) | (refine ⟨rfl, ?_⟩; (first | (go_at_call 20; with_reducible exact (Kit.callS (CN1.out _) hW'))))))); clear hK K; (try simp only [Act.put, List.getElem_toArray, List.getElem_cons_zero, List.getElem_cons_succ, List.setIfInBounds_toArray, List.set_cons_zero, List.set_cons_succ]))))
            refine wpQuiet_nil ?_
            intro W9 hW9
            go_wp2_with fail
            go_roundw
            case rel => exact ⟨j + 1, by simp, HJL.out, hW9⟩
            case measure => have := HJL.out; simp [intOf]; omega
          · as_aux_lemma =>
            by_cases hnn : nn ≤ 90000
            · have CN1 := Lib.hid (fun W => fnumber_lab nn W (by omega))
              have CN2 := Lib.hid (fun W => fnumber_lab (nn + 1) W (by omega))
              have hn0 : (0 : Int) ≤ (nn : Int) := by omega
              have hn1 : ¬ (nn : Int) < 0 := by omega
              have hwn : IntKind.i64.wrap ((nn : Int) + 1) = (nn : Int) + 1 := by rw [IntKind.wrap_i64]; omega
              generalize F8.lab nn = t1 at *
              generalize F8.lab (nn + 1) = t2 at *
              go_wp2_with fail
              refine Kit.wp_region_class (fun W' => Below wc.heap.size wc W') (by kernel_rfl) (by kernel_rfl) (hby.drew) ?_
              iterate 20 (first | go_big_quiet_skip | (refine BigFrame.wpQuiet_want (by rfl) (fun K hK => ?_); first | ((fail_if_success (fail_if_success (first | (refine BigFrame.quiet_move _ rfl ?_) | (refine BigFrame.quiet_assign _ rfl ?_)))); go_big_quiet_op; refine hK _ ?_; clear hK K) | (apply Exists.intro; refine ⟨fun W' hW' => ?_, hK _ ?_⟩; (obtain ⟨m0, m1, m2, m3⟩ := HCE.out W' hW'; unfold Oper.quietAt; go_simp; (first | done | (with_reducible rfl) | (exact ⟨rfl, rfl⟩) | (first | (go_at_call 20; with_reducible exact (Kit.callS (CN1.out _) hW')) | (refine ⟨rfl, ?_⟩; (first | (go_at_call 20; with_reducible exact (Kit.callS (CN1.out _) hW'))))))); clear hK K; (try simp only [Act.put, List.getElem_toArray, List.getElem_cons_zero, List.getElem_cons_succ, List.setIfInBounds_toArray, List.set_cons_zero, List.set_cons_succ]))))
              refine BigFrame.wpQuiet_want (by rfl) (fun K hK => ?_)
              apply Exists.intro
              refine ⟨fun W' hW' => ?_, hK _ ?_⟩
              · obtain ⟨m0, m1, m2, m3⟩ := HCE.out W' hW'
                unfold Oper.quietAt
                go_simp
                go_at_call 20
                with_reducible exact (Kit.callS (CN2.out _) hW')
              clear hK K
              try simp only [Act.put, List.getElem_toArray, List.getElem_cons_zero, List.getElem_cons_succ, List.setIfInBounds_toArray, List.set_cons_zero, List.set_cons_succ]
              iterate 9 (first | go_big_quiet_skip | (refine BigFrame.wpQuiet_want (by rfl) (fun K hK => ?_); first | ((fail_if_success (fail_if_success (first | (refine BigFrame.quiet_move _ rfl ?_) | (refine BigFrame.quiet_assign _ rfl ?_)))); go_big_quiet_op; refine hK _ ?_; clear hK K) | (apply Exists.intro; refine ⟨fun W' hW' => ?_, hK _ ?_⟩; (obtain ⟨m0, m1, m2, m3⟩ := HCE.out W' hW'; unfold Oper.quietAt; go_simp; (first | done | (with_reducible rfl) | (exact ⟨rfl, rfl⟩) | (first | (go_at_call 20; with_reducible exact (Kit.callS (CN1.out _) hW')) | (refine ⟨rfl, ?_⟩; (first | (go_at_call 20; with_reducible exact (Kit.callS (CN1.out _) hW'))))))); clear hK K; (try simp only [Act.put, List.getElem_toArray, List.getElem_cons_zero, List.getElem_cons_succ, List.setIfInBounds_toArray, List.set_cons_zero, List.set_cons_succ]))))
              refine BigFrame.wpQuiet_want (by rfl) (fun K hK => ?_)
              refine ⟨.bool false, fun W' hW' => ?_, hK _ ?_⟩
              · unfold Oper.quietAt
                go_simp
                all_goals first | done | (simp; done) | exact ⟨by simp, rfl⟩ | (refine ⟨by simp, ?_⟩; simp)
              clear hK K
              try simp only [Act.put, List.getElem_toArray, List.getElem_cons_zero, List.getElem_cons_succ, List.setIfInBounds_toArray, List.set_cons_zero, List.set_cons_succ]
              repeat (first | go_big_quiet_skip | (refine BigFrame.wpQuiet_want (by rfl) (fun K hK => ?_); first | ((fail_if_success (fail_if_success (first | (refine BigFrame.quiet_move _ rfl ?_) | (refine BigFrame.quiet_assign _ rfl ?_)))); go_big_quiet_op; refine hK _ ?_; clear hK K) | (apply Exists.intro; refine ⟨fun W' hW' => ?_, hK _ ?_⟩; (obtain ⟨m0, m1, m2, m3⟩ := HCE.out W' hW'; unfold Oper.quietAt; go_simp; (first | done | (with_reducible rfl) | (exact ⟨rfl, rfl⟩) | (first | (go_at_call 20; with_reducible exact (Kit.callS (CN1.out _) hW')) | (refine ⟨rfl, ?_⟩; (first | (go_at_call 20; with_reducible exact (Kit.callS (CN1.out _) hW'))))))); clear hK K; (try simp only [Act.put, List.getElem_toArray, List.getElem_cons_zero, List.getElem_cons_succ, List.setIfInBounds_toArray, List.set_cons_zero, List.set_cons_succ]))))
              refine wpQuiet_nil ?_
              intro W9 hW9
              go_wp2_with fail
              go_roundw
              case rel => exact ⟨j + 1, by simp, HJL.out, hW9⟩
              case measure => have := HJL.out; simp [intOf]; omega
            · exact absurd (Nat.le_trans (Nat.le_of_lt hnl) (Nat.le_trans HLL.out (by decide))) hnn
        · obtain rfl : j = pl.labels.length := by omega
          have hby0 := hby
          go_wp2_with fail
          go_loopw [16] (fun i wy => ∃ j : Nat, i = .int .i64 (j : Int) ∧ j ≤ pl.args.length ∧ Below wc.heap.size wc wy) (fun i _ => pl.args.length - (intOf i).toNat)
          case atStart => exact ⟨0, rfl, Nat.zero_le _, hby0⟩
          case round =>
            obtain ⟨j, rfl, hj, hby⟩ := hrel
            have HBY := Lib.hid hby
            obtain ⟨⟨r00, r01, r02⟩, r10, r11, r12⟩ := HBX.out _ hby
            by_cases hjl : j < pl.args.length
            · have hjl' : (j : Int) < (pl.args.length : Int) := by omega
              have hwj : IntKind.i64.wrap ((j : Int) + 1) = (j : Int) + 1 := by have := HLIM.out.2; rw [IntKind.wrap_i64]; omega
              have hjq : j < ql.args.length := by rw [← HEQ2.out]; exact hjl
              have hjq' : (j : Int) < (ql.args.length : Int) := by omega
              obtain ⟨gl1, o1, k1, e1, hg1, hc1⟩ := HP2.out.at hjl
              obtain ⟨gl2, o2, k2, e2, hg2, hc2⟩ := HQ2.out.at hjq
              injection e1 with e11 e12 e13
              injection e2 with e21 e22 e23
              subst e11 e13 e21 e23
              have HJL := Lib.hid (show j + 1 ≤ pl.args.length from hjl)
              have hga : pl.args.getD j [] = pl.args[j] := by rw [List.getD, List.getElem?_eq_getElem hjl]; rfl
              have hgb : ql.args.getD j [] = ql.args[j] := by rw [List.getD, List.getElem?_eq_getElem hjq]; rfl
              have hts : F8.TSh ls.length (pl.args.getD j []) (ql.args.getD j []) := by rw [hga, hgb]; exact HSH.out.args.at j hjl hjq
              have HCE := Lib.hid (fun W' (hW' : Below wc.heap.size wc W') => show W'.cell? ⟨gp, 2, none⟩ = some (.slice (some ⟨gl1, o1, none⟩) pl.args.length pc2) ∧ W'.cell? ⟨gq, 2, none⟩ = some (.slice (some ⟨gl2, o2, none⟩) ql.args.length qc2) ∧ W'.cell? ⟨gl1, o1 + j, none⟩ = some (.string ⟨(pl.args.getD j []).toArray⟩) ∧ W'.cell? ⟨gl2, o2 + j, none⟩ = some (.string ⟨(ql.args.getD j []).toArray⟩) from
                ⟨((HBX.out W' hW').1).2.2, ((HBX.out W' hW').2).2.2, (hW'.cell (p := ⟨gl1, o1 + j, none⟩) hg1).trans hc1, (hW'.cell (p := ⟨gl2, o2 + j, none⟩) hg2).trans hc2⟩)
              clear hc1 hc2 hga hgb hjl hjq
              generalize pl.args.getD j [] = s1 at *
              generalize ql.args.getD j [] = s2 at *
              obtain ⟨m0, m1, m2, m3⟩ := HCE.out _ hby
              rcases hts with ⟨hmd, rfl⟩ | ⟨nn, hnl, rfl, rfl⟩
              · as_aux_lemma =>
                have CN1 := Lib.hid (fun W => fnumber_none s1 W hmd)
                clear hmd
                go_wp2_with fail
                refine Kit.wp_region_class (fun W' => Below wc.heap.size wc W') (by kernel_rfl) (by kernel_rfl) (hby.drew) ?_
                repeat (first | go_big_quiet_skip | (refine BigFrame.wpQuiet_want (by rfl) (fun K hK => ?_); first | ((fail_if_success (fail_if_success (first | (refine BigFrame.quiet_move _ rfl ?_) | (refine BigFrame.quiet_assign _ rfl ?_)))); go_big_quiet_op; refine hK _ ?_; clear hK K) | (apply Exists.intro; refine ⟨fun W' hW' => ?_, hK _ ?_⟩; (obtain ⟨m0, m1, m2, m3⟩ := HCE.out W' hW'; unfold Oper.quietAt; go_simp; (first | done | (with_reducible rfl) | (exact ⟨rfl, rfl⟩) | (first | (go_at_call 20; with_reducible exact (Kit.callS (CN1.out _) hW')) | (refine ⟨rfl, ?_⟩; (first | (go_at_call 20; with_reducible exact (Kit.callS (CN1.out _) hW'))))))); clear hK K; (try simp only [Act.put, List.getElem_toArray, List.getElem_cons_zero, List.getElem_cons_succ, List.setIfInBounds_toArray, List.set_cons_zero, List.set_cons_succ]))))
                refine wpQuiet_nil ?_
                intro W9 hW9
                go_wp2_with fail
                go_roundw
                case rel => exact ⟨j + 1, by simp, HJL.out, hW9⟩
                case measure => have := HJL.out; simp [intOf]; omega
              · as_aux_lemma =>
                by_cases hnn : nn ≤ 90000
                · have CN1 := Lib.hid (fun W => fnumber_lab nn W (by omega))
                  have CN2 := Lib.hid (fun W => fnumber_lab (nn + 1) W (by omega))
                  have hn0 : (0 : Int) ≤ (nn : Int) := by omega
                  have hn1 : ¬ (nn : Int) < 0 := by omega
                  have hwn : IntKind.i64.wrap ((nn : Int) + 1) = (nn : Int) + 1 := by rw [IntKind.wrap_i64]; omega
                  generalize F8.lab nn = t1 at *
                  generalize F8.lab (nn + 1) = t2 at *
                  go_wp2_with fail
                  refine Kit.wp_region_class (fun W' => Below wc.heap.size wc W') (by kernel_rfl) (by kernel_rfl) (hby.drew) ?_
                  iterate 20 (first | go_big_quiet_skip | (refine BigFrame.wpQuiet_want (by rfl) (fun K hK => ?_); first | ((fail_if_success (fail_if_success (first | (refine BigFrame.quiet_move _ rfl ?_) | (refine BigFrame.quiet_assign _ rfl ?_)))); go_big_quiet_op; refine hK _ ?_; clear hK K) | (apply Exists.intro; refine ⟨fun W' hW' => ?_, hK _ ?_⟩; (obtain ⟨m0, m1, m2, m3⟩ := HCE.out W' hW'; unfold Oper.quietAt; go_simp; (first | done | (with_reducible rfl) | (exact ⟨rfl, rfl⟩) | (first | (go_at_call 20; with_reducible exact (Kit.callS (CN1.out _) hW')) | (refine ⟨rfl, ?_⟩; (first | (go_at_call 20; with_reducible exact (Kit.callS (CN1.out _) hW'))))))); clear hK K; (try simp only [Act.put, List.getElem_toArray, List.getElem_cons_zero, List.getElem_cons_succ, List.setIfInBounds_toArray, List.set_cons_zero, List.set_cons_succ]))))
                  refine BigFrame.wpQuiet_want (by rfl) (fun K hK => ?_)
                  apply Exists.intro
                  refine ⟨fun W' hW' => ?_, hK _ ?_⟩
                  · obtain ⟨m0, m1, m2, m3⟩ := HCE.out W' hW'
                    unfold Oper.quietAt
                    go_simp
                    go_at_call 20
                    with_reducible exact (Kit.callS (CN2.out _) hW')
                  clear hK K
                  try simp only [Act.put, List.getElem_toArray, List.getElem_cons_zero, List.getElem_cons_succ, List.setIfInBounds_toArray, List.set_cons_zero, List.set_cons_succ]
                  iterate 9 (first | go_big_quiet_skip | (refine BigFrame.wpQuiet_want (by rfl) (fun K hK => ?_); first | ((fail_if_success (fail_if_success (first | (refine BigFrame.quiet_move _ rfl ?_) | (refine BigFrame.quiet_assign _ rfl ?_)))); go_big_quiet_op; refine hK _ ?_; clear hK K) | (apply Exists.intro; refine ⟨fun W' hW' => ?_, hK _ ?_⟩; (obtain ⟨m0, m1, m2, m3⟩ := HCE.out W' hW'; unfold Oper.quietAt; go_simp; (first | done | (with_reducible rfl) | (exact ⟨rfl, rfl⟩) | (first | (go_at_call 20; with_reducible exact (Kit.callS (CN1.out _) hW')) | (refine ⟨rfl, ?_⟩; (first | (go_at_call 20; with_reducible exact (Kit.callS (CN1.out _) hW'))))))); clear hK K; (try simp only [Act.put, List.getElem_toArray, List.getElem_cons_zero, List.getElem_cons_succ, List.setIfInBounds_toArray, List.set_cons_zero, List.set_cons_succ]))))
                  refine BigFrame.wpQuiet_want (by rfl) (fun K hK => ?_)
                  refine ⟨.bool false, fun W' hW' => ?_, hK _ ?_⟩
                  · unfold Oper.quietAt
                    go_simp
                    all_goals first | done | (simp; done) | exact ⟨by simp, rfl⟩ | (refine ⟨by simp, ?_⟩; simp)
                  clear hK K
                  try simp only [Act.put, List.getElem_toArray, List.getElem_cons_zero, List.getElem_cons_succ, List.setIfInBounds_toArray, List.set_cons_zero, List.set_cons_succ]
                  repeat (first | go_big_quiet_skip | (refine BigFrame.wpQuiet_want (by rfl) (fun K hK => ?_); first | ((fail_if_success (fail_if_success (first | (refine BigFrame.quiet_move _ rfl ?_) | (refine BigFrame.quiet_assign _ rfl ?_)))); go_big_quiet_op; refine hK _ ?_; clear hK K) | (apply Exists.intro; refine ⟨fun W' hW' => ?_, hK _ ?_⟩; (obtain ⟨m0, m1, m2, m3⟩ := HCE.out W' hW'; unfold Oper.quietAt; go_simp; (first | done | (with_reducible rfl) | (exact ⟨rfl, rfl⟩) | (first | (go_at_call 20; with_reducible exact (Kit.callS (CN1.out _) hW')) | (refine ⟨rfl, ?_⟩; (first | (go_at_call 20; with_reducible exact (Kit.callS (CN1.out _) hW'))))))); clear hK K; (try simp only [Act.put, List.getElem_toArray, List.getElem_cons_zero, List.getElem_cons_succ, List.setIfInBounds_toArray, List.set_cons_zero, List.set_cons_succ]))))
                  refine wpQuiet_nil ?_
                  intro W9 hW9
                  go_wp2_with fail
                  go_roundw
                  case rel => exact ⟨j + 1, by simp, HJL.out, hW9⟩
                  case measure => have := HJL.out; simp [intOf]; omega
                · exact absurd (Nat.le_trans (Nat.le_of_lt hnl) (Nat.le_trans HLL.out (by decide))) hnn
            · obtain rfl : j = pl.args.length := by omega
              go_wp2_with fail
              go_roundw
              case rel => exact ⟨k + 1, by simp, HLT.out, HBW2.out.trans (HBY.out.mono HBW2.out.size)⟩
              case measure => have := HLT.out; simp [intOf]; omega
theorem walk_flowNested (v : Value) (ls : List L6.Line) (w : World) (h : RdL w v ls ∧ L6.Small ls) (hL : laidMetH Tryd.prog Rows.flowNestedRow.laid w) :
    Calls Tryd.prog 5 #[v] w fun e w' => e = .returned (.bool true) ∧ Below w.heap.size w w' :=
  core_flowNested v ls w h.1 h.2 (L6.tab_of hL)
end Go.Proofs.YtfafdkbnmfpbmaaDoor
