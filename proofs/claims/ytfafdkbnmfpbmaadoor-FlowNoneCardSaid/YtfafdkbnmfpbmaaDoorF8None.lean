/- The walk of the law FlowNone. -/
import Derived.Test.YtfafdkbnmfpbmaaDoorF8NoneP
import Derived.StillTailTactics
namespace Go.Proofs.YtfafdkbnmfpbmaaDoor
open Go.RowKit Kit
set_option linter.unusedVariables false
set_option linter.unusedSimpArgs false

/-- The row of lines with these texts. -/
structure F8.At (B B0 : Nat) (w1 : World) (v : Value) (n : Nat) (cs : List Value) (W : World) (L : List L6.Line) : Prop where
  row : W.ownsRow B 42 3 v n cs
  lines : F8.Ls (OwnZ B W) L cs
  below : Below B0 w1 W
theorem F8.At.kept {B B0 : Nat} {w1 : World} {v : Value} {n : Nat} {cs : List Value} {W W' : World} {L : List L6.Line} (h : F8.At B B0 w1 v n cs W L) (hb : Below W.heap.size W W') (hs : B0 ≤ W.heap.size) : F8.At B B0 w1 v n cs W' L :=
  ⟨own_kept h.row hb, h.lines.map fun _ _ hz => hz.kept hb, h.below.trans (hb.mono hs)⟩
theorem F8.At.rd {B B0 : Nat} {w1 : World} {v : Value} {n : Nat} {cs : List Value} {W : World} {L : List L6.Line} (h : F8.At B B0 w1 v n cs W L) (hL : L.length = n) : RdL W v L := ⟨cs, by rw [hL]; exact Rd.of_own h.row, F8.Ls.rd (fun _ _ hz => hz.rd) h.lines⟩
theorem F8.ls_at {R : Value → List (List UInt8) → Prop} : ∀ {L : List L6.Line} {cs : List Value} (i : Nat) (hi : i < L.length), F8.Ls R L cs → ∃ vl va, cs[i * 3]? = some vl ∧ cs[i * 3 + 1]? = some (.string ⟨L[i].word.toArray⟩) ∧ cs[i * 3 + 2]? = some va ∧ R vl L[i].labels ∧ R va L[i].args
  | [], _, i, hi, _ => absurd hi (by simp)
  | x :: t, _, 0, _, ⟨vl, va, r, e, a1, a2, a3⟩ => by subst e; exact ⟨vl, va, rfl, rfl, rfl, a1, a2⟩
  | x :: t, _, i + 1, hi, ⟨vl, va, r, e, a1, a2, a3⟩ => by
    subst e
    obtain ⟨ul, ua, h1, h2, h3, h4, h5⟩ := F8.ls_at i (by simpa using hi) a3
    refine ⟨ul, ua, ?_, ?_, ?_, by simpa using h4, by simpa using h5⟩
    · rw [show (i + 1) * 3 = i * 3 + 3 by omega]; simpa using h1
    · rw [show (i + 1) * 3 + 1 = i * 3 + 1 + 3 by omega]; simpa using h2
    · rw [show (i + 1) * 3 + 2 = i * 3 + 2 + 3 by omega]; simpa using h3
theorem F8.At.at {B B0 : Nat} {w1 : World} {v : Value} {n : Nat} {cs : List Value} {W : World} {L : List L6.Line} (h : F8.At B B0 w1 v n cs W L) (hL : L.length = n) {i : Nat} (hi : i < n) (hi2 : i < L.length) :
    ∃ g c vl va, v = .slice (some ⟨g, 0, none⟩) n c ∧ g < W.heap.size ∧ W.cell? ⟨g, i * 3, none⟩ = some vl ∧ W.cell? ⟨g, i * 3 + 1, none⟩ = some (.string ⟨L[i].word.toArray⟩) ∧ W.cell? ⟨g, i * 3 + 2, none⟩ = some va ∧ cs[i * 3]? = some vl ∧ OwnZ B W vl L[i].labels ∧ OwnZ B W va L[i].args := by
  obtain ⟨vl, va, k0, k1, k2, a1, a2⟩ := F8.ls_at i hi2 h.lines
  obtain ⟨h1, h2⟩ := h.row
  rcases h2 with ⟨_, h0⟩ | ⟨g, cap, cur, rfl, hb, hh, hnc, hcm, hcs, htake⟩
  · omega
  · have hc : ∀ j u, cs[j]? = some u → W.cell? ⟨g, j, none⟩ = some u := by
      intro j u hu
      have hj : j < n * 3 := by have := (List.getElem?_eq_some_iff.1 hu).1; omega
      rw [← htake, List.getElem?_take, if_pos hj] at hu
      simp only [World.cell?, hh]
      simpa using hu
    exact ⟨g, cap, vl, va, rfl, (Array.getElem?_eq_some_iff.1 hh).1, hc _ _ k0, hc _ _ k1, hc _ _ k2, k0, a1, a2⟩
theorem F8.lab_cells {B : Nat} {W : World} {vl : Value} {l : List (List UInt8)} (h : OwnZ B W vl l) {j : Nat} (hj : j < l.length) :
    ∃ g c T, vl = .slice (some ⟨g, 0, none⟩) l.length c ∧ g < W.heap.size ∧ W.cell? ⟨g, j, none⟩ = some (.string ⟨(l.getD j []).toArray⟩) ∧ W.frozen? ⟨g, j, none⟩ = false ∧ Bk W g 9 T ∧ B ≤ g := by
  rcases h with ⟨h1, h2⟩ | ⟨rfl, _⟩
  · rcases h2 with ⟨_, h0⟩ | ⟨g, cap, cur, rfl, hb, hh, hnc, hcm, hcs, htake⟩
    · omega
    · have hk : Bk W g 9 cur := hh
      refine ⟨g, cap, cur, rfl, hk.lt, ?_, hk.free j, hk, hb⟩
      rw [hk.cell]
      have hu : (L6.sv l)[j]? = some (.string ⟨(l.getD j []).toArray⟩) := by simp [L6.sv, List.getD, hj]
      rw [← htake, List.getElem?_take, if_pos (by omega)] at hu
      simpa using hu
  · simp at hj
theorem F8.cat_95 (y : List UInt8) : (⟨#[95]⟩ : ByteArray) ++ ⟨y.toArray⟩ = ⟨(95 :: y).toArray⟩ := app_eq [95] y
theorem F8.At.mid {B B0 : Nat} {w1 : World} {v : Value} {n : Nat} {cs : List Value} {W : World} {PL : List L6.Line} {k : Nat} {ls : List (List UInt8)} {xw : List UInt8} {xa : List (List UInt8)} (h : F8.At B B0 w1 v n cs W (F8.mid PL k ⟨ls, xw, xa⟩)) (hL : PL.length = n) (hk : k < PL.length) :
    ∃ g c vl va, v = .slice (some ⟨g, 0, none⟩) n c ∧ g < W.heap.size ∧ W.cell? ⟨g, k * 3, none⟩ = some vl ∧ W.cell? ⟨g, k * 3 + 1, none⟩ = some (.string ⟨xw.toArray⟩) ∧ W.cell? ⟨g, k * 3 + 2, none⟩ = some va ∧ cs[k * 3]? = some vl ∧ OwnZ B W vl ls ∧ OwnZ B W va xa := by
  have hk2 : k < (F8.mid PL k ⟨ls, xw, xa⟩).length := by rw [F8.mid_len hk]; exact hk
  have := h.at (i := k) (by rw [F8.mid_len hk]; exact hL) (by omega) hk2
  rw [F8.mid_at hk _ hk2] at this
  exact this
/-- One label's new name. -/
theorem F8.At.set {B B0 : Nat} {w1 : World} {v : Value} {n H : Nat} {cs : List Value} {W : World} {PL : List L6.Line} {k j g : Nat} {xl : List (List UInt8)} {xw : List UInt8} {xa : List (List UInt8)} {T : Array Value} (h : F8.At B B0 w1 v n cs W (F8.mid PL k ⟨F8.mix xl j, xw, xa⟩)) (ha : F8.Apart H cs) (hB : B0 ≤ B) (hs : B0 ≤ W.heap.size) (hk : k < PL.length) (hj : j < xl.length)
    (hv : ∀ vl, cs[k * 3]? = some vl → F8.blk vl = some g) (hg : Bk W g 9 T) (hBg : B ≤ g) {s : List UInt8} (hr : F8.ren (xl.getD j []) = s) : F8.At B B0 w1 v n cs (W.setCell ⟨g, j, none⟩ (.string ⟨s.toArray⟩)) (F8.mid PL k ⟨F8.mix xl (j + 1), xw, xa⟩) := by
  have hi : k < (F8.mid PL k ⟨F8.mix xl j, xw, xa⟩).length := by rw [F8.mid_len hk]; exact hk
  have h2 := F8.ls_set (s := s) (k := j) hg k hi h.lines ha.1 hv
  rw [F8.mid_at hk _ hi, F8.mid_set hk] at h2
  dsimp only at h2
  rw [← hr, F8.mix_step hj] at h2
  subst hr
  exact ⟨own_but_ne h.row (own_ne h.row hg (by decide)) (But.setCell W g j _), h2, h.below.trans ((Below.refl B0 W).setCell (p := ⟨g, j, none⟩) (Nat.le_trans hB hBg) _)⟩
set_option maxRecDepth 100000 in
set_option maxHeartbeats 2000000 in
theorem fflow_any (s : List UInt8) (w : World) : Calls Tryd.prog 19 #[.string ⟨s.toArray⟩] w fun e w' => e = .returned (.bool (F8.kind s).isSome) ∧ Below w.heap.size w w' := by
  obtain ⟨W1, hW1⟩ : ∃ W1, w.alloc (.cells #[.string ⟨#[105, 102]⟩, .string ⟨#[101, 108, 115, 101]⟩, .string ⟨#[116, 104, 101, 110]⟩, .string ⟨#[98, 101, 103, 105, 110]⟩, .string ⟨#[119, 104, 105, 108, 101]⟩, .string ⟨#[114, 101, 112, 101, 97, 116]⟩, .string ⟨#[117, 110, 116, 105, 108]⟩, .string ⟨#[97, 103, 97, 105, 110]⟩] 9) = W1 := ⟨_, rfl⟩
  have hbe : Below w.heap.size w W1 := by rw [← hW1]; exact (Below.refl _ _).alloc (Nat.le_refl _) _
  have hk1 : Bk W1 w.heap.size 9 (L6.sv F8.words).toArray := by rw [← hW1]; exact Bk.fresh w _ _
  have HBE := Lib.hid hbe
  have HC := Lib.hid (fun k (hk : k < 8) => show W1.cell? ⟨w.heap.size, k, none⟩ = some (.string ⟨(F8.words.getD k []).toArray⟩) from by
    rw [hk1.cell]
    have h8 : k < F8.words.length := hk
    simp [L6.sv, List.getD, h8])
  have HK := Lib.hid (fun k (hk : k < 8) (e : F8.words.getD k [] = s) => show (F8.kind s).isSome = true from by
    rw [← e]
    have h : k = 0 ∨ k = 1 ∨ k = 2 ∨ k = 3 ∨ k = 4 ∨ k = 5 ∨ k = 6 ∨ k = 7 := by omega
    rcases h with rfl | rfl | rfl | rfl | rfl | rfl | rfl | rfl <;> decide)
  clear hbe hk1
  go_enter Tryd.func19, Tryd.ntmps19
  go_wp2_with fail
  go_loop [4] (fun i => ∃ k : Nat, i = .int .i64 (k : Int) ∧ k ≤ 8 ∧ ∀ j, j < k → F8.words.getD j [] ≠ s) (fun i => 8 - (intOf i).toNat)
  case atStart => exact ⟨0, rfl, Nat.zero_le _, fun j hj => absurd hj (by omega)⟩
  case round =>
    obtain ⟨k, rfl, hk, hno⟩ := hrel
    have HN := Lib.hid hno
    clear hno
    by_cases hlt : k < 8
    · have hlt' : (k : Int) < 8 := by omega
      have hw1 : IntKind.i64.wrap ((k : Int) + 1) = (k : Int) + 1 := by rw [IntKind.wrap_i64]; omega
      have hc := HC.out k hlt
      have HKK := Lib.hid (HK.out k hlt)
      have HLT := Lib.hid hlt
      have HNN := Lib.hid (fun (h : F8.words.getD k [] ≠ s) j (hj : j < k + 1) => show F8.words.getD j [] ≠ s from by
        by_cases e : j = k
        · rw [e]; exact h
        · exact HN.out j (by omega))
      clear hlt HK
      generalize F8.words.getD k [] = y at *
      by_cases he : y = s
      · have HR := Lib.hid (HKK.out he)
        subst he
        go_wp2_with fail
        go_ret
        exact ⟨lret_bool HR.out.symm, HBE.out⟩
      · have e0 : (y == s) = false := by simpa using he
        have HE := Lib.hid (HNN.out he)
        clear he
        go_wp2_with fail
        go_round
        case rel => exact ⟨k + 1, by simp, HLT.out, HE.out⟩
        case measure => have := HLT.out; simp [intOf]; omega
    · obtain rfl : k = 8 := by omega
      have HR := Lib.hid (F8.words_none HN.out)
      go_wp2_with fail
      go_ret
      exact ⟨lret_bool (by rw [HR.out]; rfl), HBE.out⟩
set_option maxRecDepth 100000 in
set_option maxHeartbeats 16000000 in
theorem core_flowNone (v : Value) (ls : List L6.Line) (w : World) (h : RdL w v ls) (hs : L6.Small ls) (hT : L6.Tab w) :
    Calls Tryd.prog 4 #[v] w fun e w' => e = .returned (.bool true) ∧ Below w.heap.size w w' := by
  have CK := Lib.hid (fun W (hT : L6.Tab W) => fknows_any W hT)
  have CL := Lib.hid (llight_any v ls w h hs)
  have HH := Lib.hid h
  have HT := Lib.hid hT
  obtain ⟨A, c, rfl⟩ := h.form
  clear h hs hT
  go_enter Tryd.func4, Tryd.ntmps4
  go_wp2_with (go_at_call 9; refine CL.out.mono ?_)
  rintro e w0 ⟨b, rfl, hwt, hb0⟩
  have HB0 := Lib.hid hb0
  clear hb0
  cases b
  · go_wp2_with (go_at_call 10; refine (CK.out _ (HT.out.kept HB0.out)).mono ?_; rintro e w1 ⟨rfl, hb1⟩)
    go_ret
    exact ⟨rfl, HB0.out.trans (hb1.mono HB0.out.size)⟩
  have hW := hwt rfl
  have hsm := F8.small_of hW
  have HLL := Lib.hid hsm.1
  have HFIT := Lib.hid (F8.fit_of hW)
  have HF6 := Lib.hid (show ∀ x ∈ ls, x.fits from fun x hx => ⟨Nat.le_trans (hsm.2 x hx).1 (by decide), Nat.le_trans (hsm.2 x hx).2.1 (by decide)⟩)
  have hlim := F8.plain_lim 3000 ls (fun x hx => ⟨((hsm.2 x hx).1), (hsm.2 x hx).2.1⟩)
  have hsh := F8.plain_short (C := 5000) ls (by have := hsm.1; omega) (fun x hx s hs => Nat.le_trans ((hsm.2 x hx).2.2.2 s hs) (by decide))
  have CO := Lib.hid (lown_any (.slice A ls.length c) ls w0 (HH.out.kept HB0.out) (by have := HLL.out; omega) HF6.out)
  have CF := Lib.hid (fun v W (h : RdL W v ls) (hT : L6.Tab W) => fplain_any v ls W h (by have := HLL.out; omega) HFIT.out hT)
  have HERR := Lib.hid (fun a n e (h : F8.plain ls = (a, n, e)) (he : e ≠ 0) => F8.plain_err h he)
  have HLAW := Lib.hid (fun a n (h : F8.plain ls = (a, n, 0)) => F8.none_law ls a n h)
  have HUM := Lib.hid (fun a n (h : F8.plain ls = (a, n, 0)) (e : a = ls) => F8.plain_unmade h e)
  clear hwt hW hsm
  go_wp2_with (first
    | (go_at_call 11; refine CO.out.mono ?_; rintro e w1 ⟨v1, rfl, hv1, hb1⟩; have HB1 := Lib.hid (HB0.out.trans (hb1.mono HB0.out.size)); have HV1 := Lib.hid hv1; obtain ⟨A1, c1, rfl⟩ := hv1.form; clear hv1 hb1)
    | (go_at_call 12; refine (CF.out _ _ HV1.out (HT.out.kept HB1.out)).mono ?_))
  rintro e w2 ⟨v2, rfl, hv2, hb2⟩
  obtain ⟨PL, PN, PE, hP⟩ : ∃ a b c, F8.plain ls = (a, b, c) := ⟨_, _, _, rfl⟩
  rw [hP] at hv2 hlim hsh ⊢
  dsimp only at hv2 hlim hsh ⊢
  have HB12 := Lib.hid hb2
  have HB2 := Lib.hid (HB1.out.trans (hb2.mono HB1.out.size))
  obtain ⟨cs, H, ho2, hl2, hap⟩ := hv2
  have HAP := Lib.hid hap
  have HAT := Lib.hid (show F8.At w1.heap.size w1.heap.size w1 v2 PL.length cs w2 PL from ⟨ho2, hl2, hb2⟩)
  obtain ⟨A2, c2, rfl⟩ := (Rd.of_own ho2).form
  have HPN := Lib.hid (show PL.length ≤ 2000 from by have := hlim.2.1; have := HLL.out; omega)
  have HLIM := Lib.hid hlim.1
  have HSH := Lib.hid hsh
  clear hb2 ho2 hl2 hap hlim hsh
  by_cases hE : PE = 0
  rotate_left
  · have hne : ((PE : Int) != 0) = true := by rw [bne_iff_ne]; omega
    obtain rfl := HERR.out _ _ _ hP hE
    clear hE
    go_wp2_with (first | (go_at_call 18; refine (fnum_any _ _).mono ?_; rintro e w' ⟨rfl, rfl⟩) | (go_at_call 10; refine (CK.out _ (HT.out.kept HB2.out)).mono ?_; rintro e w9 ⟨rfl, hb9⟩))
    go_ret
    exact ⟨rfl, HB2.out.trans (hb9.mono HB2.out.size)⟩
  subst hE
  obtain ⟨_, hbare, hagain, hsame⟩ := HLAW.out _ _ hP
  have HBARE := Lib.hid hbare
  have HAGAIN := Lib.hid hagain
  have HSAME := Lib.hid (fun (hb : F8.Bare ls) => HUM.out _ _ hP (hsame hb))
  clear hbare hagain hsame hP HERR HLAW HUM
  go_wp2_with (go_at_call 18; refine (fnum_any _ _).mono ?_; rintro e w' ⟨rfl, rfl⟩)
  go_loopw [7, 8] (fun a i wr => ∃ k : Nat, a = .bool ((ls.take k).any fun x => (F8.kind x.word).isSome) ∧ i = .int .i64 (k : Int) ∧ k ≤ ls.length ∧ Below w2.heap.size w2 wr) (fun _ i _ => match i with | .int _ n => ls.length - n.toNat | _ => 0)
  case atStart => exact ⟨0, rfl, rfl, Nat.zero_le _, Below.refl _ _⟩
  case round =>
  obtain ⟨k, rfl, rfl, hk, hbw⟩ := hrel
  have HBW := Lib.hid hbw
  by_cases hlt : k < ls.length
  · have hlt' : (k : Int) < (ls.length : Int) := by omega
    have hw1 : IntKind.i64.wrap ((k : Int) + 1) = (k : Int) + 1 := by have := HLL.out; rw [IntKind.wrap_i64]; omega
    obtain ⟨g, off, c', va1, va2, e, hg, k0, k1, k2, r1, r2⟩ := HH.out.at hlt
    injection e with e1 e2 e3
    subst e1 e3
    have HLT := Lib.hid (show k + 1 ≤ ls.length from hlt)
    have HANY := Lib.hid (show (ls.take (k + 1)).any (fun x => (F8.kind x.word).isSome) = ((ls.take k).any (fun x => (F8.kind x.word).isSome) || (F8.kind ls[k].word).isSome) from by rw [lines_take hlt, List.any_append, List.any_cons, List.any_nil, Bool.or_false]; rfl)
    have q1 : wr.cell? ⟨g, off + k * 3 + 1, none⟩ = some (.string ⟨ls[k].word.toArray⟩) := ((HB2.out.trans (hbw.mono HB2.out.size)).cell (p := ⟨g, _, none⟩) hg).trans k1
    clear k0 k1 k2 r1 r2 hlt
    generalize ls[k].word = xw at *
    generalize (ls.take k).any (fun x => (F8.kind x.word).isSome) = bb at *
    cases bb
    · go_wp2_with (go_at_call 19; refine (fflow_any _ _).mono ?_; rintro e w4 ⟨rfl, hb4⟩)
      go_roundw
      case rel => exact ⟨k + 1, by rw [HANY.out]; simp, by simp, HLT.out, HBW.out.trans (hb4.mono HBW.out.size)⟩
      case measure => have := HLT.out; simp; omega
    · go_wp2_with fail
      go_roundw
      case rel => exact ⟨k + 1, by rw [HANY.out]; simp, by simp, HLT.out, HBW.out⟩
      case measure => have := HLT.out; simp; omega
  obtain rfl : k = ls.length := by omega
  rw [List.take_length]
  have HSAMEB := Lib.hid (show (ls.any fun x => (F8.kind x.word).isSome) = false → PL.map F8.renL = ls from fun h => HSAME.out (fun y hy => by
    rw [List.any_eq_false] at h
    have := h y hy
    simpa using this))
  generalize (ls.any fun x => (F8.kind x.word).isSome) = ANY at *
  have HAT3 := Lib.hid (HAT.out.kept hbw HB12.out.size)
  clear hbw hk
  go_wp2_with fail
  go_loopw [9] (fun i wr => ∃ k : Nat, i = .int .i64 (k : Int) ∧ k ≤ PL.length ∧ F8.At w1.heap.size w1.heap.size w1 (.slice A2 PL.length c2) PL.length cs wr (F8.upto PL k)) (fun i _ => PL.length - (intOf i).toNat)
  case atStart => exact ⟨0, rfl, Nat.zero_le _, by rw [F8.upto_zero]; exact HAT3.out⟩
  case round =>
  obtain ⟨k, rfl, hk, hat⟩ := hrel
  by_cases hlt : k < PL.length
  · have hlt' : (k : Int) < (PL.length : Int) := by omega
    have hw1 : IntKind.i64.wrap ((k : Int) + 1) = (k : Int) + 1 := by have := HPN.out; rw [IntKind.wrap_i64]; omega
    rw [F8.upto_mid hlt] at hat
    have HUP := Lib.hid (F8.mid_upto hlt)
    have HKN := Lib.hid (HBARE.out _ (List.getElem_mem hlt))
    have hxl := (HLIM.out _ (List.getElem_mem hlt)).1
    have hxs := HSH.out _ (List.getElem_mem hlt)
    have HLT := Lib.hid (show k < PL.length from hlt)
    generalize PL[k] = X at *
    obtain ⟨xl, xw, xa⟩ := X
    dsimp only at hat HUP HKN hxl hxs
    have HXS := Lib.hid hxs
    clear hxs
    obtain ⟨g, cc, vl, va, e, hg, k0, k1, k2, kv, z1, z2⟩ := hat.mid rfl hlt
    injection e with e1 e2 e3
    subst e1 e3
    have HAT4 := Lib.hid hat
    have HXL := Lib.hid (show xl.length ≤ 10000 from Nat.le_trans hxl (by decide))
    obtain ⟨A3, c3, rfl⟩ := z1.form
    clear hat z1 z2 hxl k0 k2 kv
    have e0 : (F8.kind xw).isSome = false := by rw [HKN.out]; rfl
    have CFL := Lib.hid (show ∀ W, Calls Tryd.prog 19 #[.string ⟨xw.toArray⟩] W fun e w' => e = .returned (.bool false) ∧ Below W.heap.size W w' from fun W => (fflow_any xw W).mono fun e w' h => ⟨by rw [h.1, e0], h.2⟩)
    clear e0
    go_wp2_with (go_at_call 19; refine (CFL.out _).mono ?_; rintro e w4 ⟨rfl, hb4⟩)
    have HAT5 := Lib.hid (HAT4.out.kept hb4 HAT4.out.below.size)
    clear hg k1 hb4
    go_loopw [10] (fun i wy => ∃ j : Nat, i = .int .i64 (j : Int) ∧ j ≤ xl.length ∧ F8.At w1.heap.size w1.heap.size w1 (.slice (some ⟨g, 0, none⟩) PL.length c2) PL.length cs wy (F8.mid PL k ⟨F8.mix xl j, xw, xa⟩)) (fun i _ => xl.length - (intOf i).toNat)
    case atStart => exact ⟨0, rfl, Nat.zero_le _, HAT5.out⟩
    case round =>
    obtain ⟨j, rfl, hj, hat⟩ := hrel
    obtain ⟨g', cc', vl2, va2, e, hg2, l0, l1, l2, lv, y1, y2⟩ := hat.mid rfl HLT.out
    injection e with e1 e2 e3
    injection e1 with e1
    injection e1 with e1
    subst e1 e3
    have HATJ := Lib.hid hat
    by_cases hjl : j < xl.length
    · have hjl' : (j : Int) < (xl.length : Int) := by omega
      have hwj : IntKind.i64.wrap ((j : Int) + 1) = (j : Int) + 1 := by have := HXL.out; rw [IntKind.wrap_i64]; omega
      obtain ⟨gl, cl, T, ev, hgl, hc, hfr, hbk, hbl⟩ := F8.lab_cells y1 (by rw [F8.mix_len _ _ hj]; exact hjl)
      rw [F8.mix_len _ _ hj] at ev
      rw [F8.mix_at hjl] at hc
      subst ev
      have HSET := Lib.hid (fun s (hr : F8.ren (xl.getD j []) = s) => hat.set HAP.out (Nat.le_refl _) hat.below.size HLT.out hjl (fun vl e => by rw [lv] at e; injection e with e; subst e; show (if xl.length = 0 then none else some gl) = some gl; rw [if_neg (by omega)]) hbk hbl hr)
      have HSM := Lib.hid (fun (h : F8.made (xl.getD j []) = false) => show F8.At w1.heap.size w1.heap.size w1 (.slice (some ⟨g, 0, none⟩) PL.length c2) PL.length cs wr (F8.mid PL k ⟨F8.mix xl (j + 1), xw, xa⟩) from by rw [← F8.mix_same hjl h]; exact hat)
      have HSHY := Lib.hid (show (xl.getD j []).length ≤ 5000 from HXS.out _ (by rw [List.getD, List.getElem?_eq_getElem hjl]; exact List.getElem_mem hjl))
      have HJL := Lib.hid (show j + 1 ≤ xl.length from hjl)
      clear hat lv y1 y2 hbk hbl l1 l2 hjl hj
      generalize xl.getD j [] = y at *
      cases y with
      | nil =>
        have HK := Lib.hid (HSM.out rfl)
        go_wp2_with fail
        go_roundw
        case rel => exact ⟨j + 1, by simp, HJL.out, HK.out⟩
        case measure => have := HJL.out; simp [intOf]; omega
      | cons cb tb =>
        have h0 : 0 < (cb :: tb).length := by simp
        have hpos : (0 : Int) < ((cb :: tb).length : Int) := by rw [List.length_cons]; omega
        have e64 : ((((⟨(cb :: tb).toArray⟩ : ByteArray)[0]'h0).toNat : Int) == 64) = (cb == 64) := by rw [L6.get_data (cb :: tb) 0 h0]; exact byte_eq _ 64
        have hne : ((cb :: tb : List UInt8) != []) = true := by simp
        have em : F8.made (cb :: tb) = (cb == 64) := rfl
        have HREN := Lib.hid (fun (h : (cb == 64) = true) => show F8.ren (cb :: tb) = 95 :: cb :: tb from by unfold F8.ren; rw [em, h]; rfl)
        rw [em] at HSM
        clear em
        cases hc4 : (cb == 64)
        · rw [hc4] at e64
          have HK := Lib.hid (HSM.out hc4)
          clear hc4 HSM HSET HREN
          go_wp2_with fail
          go_roundw
          case rel => exact ⟨j + 1, by simp, HJL.out, HK.out⟩
          case measure => have := HJL.out; simp [intOf]; omega
        · rw [hc4] at e64
          have HK := Lib.hid (HSET.out _ (HREN.out hc4))
          have ecat := F8.cat_95 (cb :: tb)
          have hsum : ¬ 9223372036854775807 < 1 + (tb.length + 1) := by have := HSHY.out; rw [List.length_cons] at this; omega
          clear hc4 HSM HSET HREN
          generalize 95 :: cb :: tb = z at *
          go_wp2_with fail
          refine wp_region_still_tail 16 (by kernel_rfl) (by kernel_rfl) ?_
          have hd : ∀ W : World, {W with drawn := W.drawn + 1} = W.drew := fun _ => rfl
          rw [hd]
          clear hd
          simp only [List.take_succ_cons, List.take_zero, List.drop_succ_cons, List.drop_zero]
          repeat ((with_reducible refine wpStill_step (fun K hK => ?_)); go_simp; (try go_bits); (with_reducible refine hK _ ?_); clear hK K)
          refine wpStill_nil ?_
          go_wp2_with fail
          go_roundw
          case rel => exact ⟨j + 1, by simp, HJL.out, HK.out.kept ((Below.refl _ _).drew) HK.out.below.size⟩
          case measure => have := HJL.out; simp [intOf]; omega
    · obtain rfl : j = xl.length := by omega
      obtain ⟨A4, c4, rfl⟩ := y1.form
      rw [F8.mix_len _ _ (Nat.le_refl _)] at l0
      have HAT6 := Lib.hid (show F8.At w1.heap.size w1.heap.size w1 (.slice (some ⟨g, 0, none⟩) PL.length c2) PL.length cs wr (F8.upto PL (k + 1)) from by rw [← HUP.out]; exact hat)
      clear hat y1 y2 lv l1 l2
      go_wp2_with fail
      go_roundw
      case rel => exact ⟨k + 1, by simp, HLT.out, HAT6.out⟩
      case measure => have := HLT.out; simp [intOf]; omega
  · obtain rfl : k = PL.length := by omega
    rw [F8.upto_all] at hat
    have hrd := hat.rd (by rw [List.length_map])
    have HBE := Lib.hid (show Below w.heap.size w wr from HB1.out.trans (hat.below.mono HB1.out.size))
    have HPF := Lib.hid (show ∀ x ∈ PL.map F8.renL, x.fits from fun x hx => by
      obtain ⟨y, hy, rfl⟩ := List.mem_map.1 hx
      have := HLIM.out y hy
      exact ⟨by show (y.labels.map F8.ren).length ≤ _; rw [List.length_map]; exact Nat.le_trans this.1 (by decide), Nat.le_trans this.2 (by decide)⟩)
    have HPX := Lib.hid (show ∀ x ∈ PL.map F8.renL, F8.Fit x from fun x hx => by
      obtain ⟨y, hy, rfl⟩ := List.mem_map.1 hx
      have := HLIM.out y hy
      have h2 := HSH.out y hy
      refine ⟨by show (y.labels.map F8.ren).length ≤ _; rw [List.length_map]; exact Nat.le_trans this.1 (by decide), Nat.le_trans this.2 (by decide), fun s hs => ?_⟩
      obtain ⟨s', hs', rfl⟩ := List.mem_map.1 hs
      have := h2 s' hs'
      unfold F8.ren
      split
      · rw [List.length_cons]; omega
      · omega)
    have HLN := Lib.hid (show (PL.map F8.renL).length ≤ 2000 from by rw [List.length_map]; exact HPN.out)
    have CF2 := Lib.hid (fun v W (h : RdL W v (PL.map F8.renL)) (hT : L6.Tab W) => by
      have := fplain_any v (PL.map F8.renL) W h (by have := HLN.out; omega) HPX.out hT
      rw [HAGAIN.out] at this
      exact this)
    have CR := Lib.hid (fun v W (h : RdL W v (PL.map F8.renL)) => lref_any v (PL.map F8.renL) W h (by have := HLN.out; omega) HPF.out)
    have CS := Lib.hid (fun a b W (h : RdL W a (PL.map F8.renL)) (h' : RdL W b (PL.map F8.renL)) => (rSame_any a b _ _ W h h' (by have := HLN.out; omega) (by have := HLN.out; omega) HPF.out HPF.out).mono (R' := fun e w' => e = .returned (.bool true) ∧ Below W.heap.size W w') (fun e w' hh => ⟨hh.1.trans (by simp), hh.2⟩))
    have HRD := Lib.hid hrd
    clear hat hrd HPF HPX HAGAIN
    generalize PL.map F8.renL = PR at *
    go_wp2_with (go_at_call 12; refine (CF2.out _ _ HRD.out (HT.out.kept HBE.out)).mono ?_)
    rintro e w7 ⟨v7, rfl, hv7, hb7⟩
    dsimp only at hv7 ⊢
    have HB7 := Lib.hid (HBE.out.trans (hb7.mono HBE.out.size))
    have HV7 := Lib.hid hv7.rd
    have HRD7 := Lib.hid (HRD.out.kept hb7)
    obtain ⟨A7, c7, rfl⟩ := hv7.rd.form
    clear hv7 hb7
    go_wp2_with (first
      | (go_at_call 18; refine (fnum_any _ _).mono ?_; rintro e w' ⟨rfl, rfl⟩)
      | (go_at_call 17; with_reducible refine (CR.out _ _ HV7.out).mono ?_))
    rintro e w8 ⟨v8, rfl, hv8, hb8⟩
    have HB8 := Lib.hid (HB7.out.trans (hb8.mono HB7.out.size))
    have HV8 := Lib.hid hv8
    have HRD8 := Lib.hid (HRD7.out.kept hb8)
    obtain ⟨A8, c8, rfl⟩ := hv8.form
    clear hv8 hb8
    go_wp2_with (go_at_call 17; with_reducible refine (CR.out _ _ HRD8.out).mono ?_)
    rintro e w9 ⟨v9, rfl, hv9, hb9⟩
    have HB9 := Lib.hid (HB8.out.trans (hb9.mono HB8.out.size))
    have HV9 := Lib.hid hv9
    have HV89 := Lib.hid (HV8.out.kept hb9)
    have HRD9 := Lib.hid (HRD8.out.kept hb9)
    obtain ⟨A9, c9, rfl⟩ := hv9.form
    clear hv9 hb9
    go_wp2_with (go_at_call 16; with_reducible refine (CS.out _ _ _ HV89.out HV9.out).mono ?_)
    rintro e w10 ⟨rfl, hb10⟩
    have HB10 := Lib.hid (HB9.out.trans (hb10.mono HB9.out.size))
    have HRD10 := Lib.hid (HRD9.out.kept hb10)
    clear hb10
    cases ANY
    · have HLS := Lib.hid (show RdL w (.slice A ls.length c) PR from by rw [HSAMEB.out rfl]; exact HH.out)
      go_wp2_with (go_at_call 17; with_reducible refine (CR.out _ _ HRD10.out).mono ?_)
      rintro e w11 ⟨v11, rfl, hv11, hb11⟩
      have HB11 := Lib.hid (HB10.out.trans (hb11.mono HB10.out.size))
      have HV11 := Lib.hid hv11
      obtain ⟨A11, c11, rfl⟩ := hv11.form
      clear hv11 hb11
      go_wp2_with (go_at_call 16; with_reducible refine (CS.out _ _ _ HV11.out (HLS.out.kept HB11.out)).mono ?_)
      rintro e w12 ⟨rfl, hb12⟩
      have HB12 := Lib.hid (HB11.out.trans (hb12.mono HB11.out.size))
      clear hb12
      go_wp2_with (go_at_call 10; refine (CK.out _ (HT.out.kept HB12.out)).mono ?_; rintro e w13 ⟨rfl, hb13⟩)
      go_ret
      exact ⟨rfl, HB12.out.trans (hb13.mono HB12.out.size)⟩
    · go_wp2_with (go_at_call 10; refine (CK.out _ (HT.out.kept HB10.out)).mono ?_; rintro e w13 ⟨rfl, hb13⟩)
      go_ret
      exact ⟨rfl, HB10.out.trans (hb13.mono HB10.out.size)⟩
theorem walk_flowNone (v : Value) (ls : List L6.Line) (w : World) (h : RdL w v ls ∧ L6.Small ls) (hL : laidMetH Tryd.prog Rows.flowNoneRow.laid w) :
    Calls Tryd.prog 4 #[v] w fun e w' => e = .returned (.bool true) ∧ Below w.heap.size w w' :=
  core_flowNone v ls w h.1 h.2 (L6.tab_of hL)
end Go.Proofs.YtfafdkbnmfpbmaaDoor
