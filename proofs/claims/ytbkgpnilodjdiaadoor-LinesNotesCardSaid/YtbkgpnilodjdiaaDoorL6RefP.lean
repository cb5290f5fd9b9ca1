/- The document's side: Parse. -/
import Derived.Test.YtbkgpnilodjdiaaDoorL6RefL
import Derived.Test.YtbkgpnilodjdiaaDoorL6RefS
namespace Go.Proofs.YtbkgpnilodjdiaaDoor
open Go.RowKit Kit
set_option linter.unusedVariables false
set_option linter.unusedSimpArgs false

theorem rlrt : RowTy Tryd.prog 27 47 3 64 :=
  ⟨Tryd.underlying27, by
    have h : (Tryd.prog.info? 47).map (fun i => (i.zero, i.size, i.bytes)) = some (some (.agg #[.slice none 0 0, .string ByteArray.empty, .slice none 0 0]), 3, 64) := by kernel_rfl
    obtain ⟨i, h1, h2, h3, h4⟩ := info_parts h
    exact ⟨i, _, h1, h2, h3, h4, by kernel_rfl⟩⟩
def ROwnL (base : Nat) (w : World) (v : Value) (ls : List L6.Line) : Prop := ∃ cs, w.ownsRow base 47 3 v ls.length cs ∧ LinesV base w ls cs
theorem ROwnL.nil (base : Nat) (w : World) : ROwnL base w (.slice none 0 0) [] := ⟨[], World.ownsRow_nil w base 47 3, rfl⟩
theorem ROwnL.kept {base : Nat} {w w' : World} {v : Value} {ls : List L6.Line} (h : ROwnL base w v ls) (hb : Below w.heap.size w w') : ROwnL base w' v ls := by
  obtain ⟨cs, h1, h2⟩ := h
  exact ⟨cs, own_kept h1 hb, h2.map fun _ _ h => h.kept hb⟩
theorem ROwnL.form {base : Nat} {w : World} {v : Value} {ls : List L6.Line} (h : ROwnL base w v ls) : ∃ A c, v = .slice A ls.length c := by
  obtain ⟨cs, h1, _⟩ := h
  exact (Rd.of_own h1).form
/-- What a row of lines grows by leaves slices of texts alone. -/
theorem OwnS.grown {base base' : Nat} {w1 w' : World} {v u : Value} {n : Nat} {cs : List Value} {l : List (List UInt8)} (hv : w1.ownsRow base' 47 3 v n cs) (hg : w1.grownBy w' v.ownBlock) (hu : OwnS base w1 u l) : OwnS base w' u l := by
  obtain ⟨e1, e2⟩ := hu
  refine ⟨e1, ?_⟩
  rcases e2 with e2 | ⟨g', cap, cur, rfl, hb', hh, rest⟩
  · exact .inl e2
  · refine .inr ⟨g', cap, cur, rfl, hb', (hg.block g' (Array.getElem?_eq_some_iff.1 hh).1 (fun e => ?_)).trans hh, rest⟩
    obtain ⟨_, q⟩ := hv
    rcases q with ⟨rfl, _⟩ | ⟨g2, cap2, cur2, rfl, _, hh2, _⟩
    · simp [Value.ownBlock] at e
    · simp [Value.ownBlock] at e
      subst e
      rw [hh] at hh2
      simp at hh2
theorem ROwnL.grown {base : Nat} {w w1 w' : World} {v v' vl va : Value} {ls : List L6.Line} {x : L6.Line} {cs : List Value} (h2 : LinesV base w ls cs) (hv : w1.ownsRow base 47 3 v ls.length cs) (hb : Below w.heap.size w w1)
    (hl : OwnS base w1 vl x.labels) (ha : OwnS base w1 va x.args) (ho : w'.ownsRow base 47 3 v' (ls.length + 1) (cs ++ [vl, .string ⟨x.word.toArray⟩, va])) (hg : w1.grownBy w' v.ownBlock) : ROwnL base w' v' (ls ++ [x]) :=
  ⟨_, by simpa using ho, LinesV.snoc (OwnS.grown hv hg hl) (OwnS.grown hv hg ha) (h2.map fun u l hu => OwnS.grown hv hg (hu.kept hb))⟩
theorem rone3 {a b : Nat} {w : World} {vl va : Value} {x y : List (List UInt8)} {u : ByteArray} (h1 : OwnS a w vl x) (h2 : OwnS b w va y) : ∀ z ∈ [vl, .string u, va], z.oneCell' = true := by
  obtain ⟨A1, c1, rfl⟩ := h1.form
  obtain ⟨A2, c2, rfl⟩ := h2.form
  intro z hz
  simp only [List.mem_cons, List.not_mem_nil, or_false] at hz
  rcases hz with rfl | rfl | rfl <;> rfl
def RParsePost (w : World) (s : List UInt8) (e : Ending) (w' : World) : Prop :=
  ∃ v, e = .returned (.tuple #[v, .int .i64 ((L6.parse s).2.1 : Nat), .int .i64 ((L6.parse s).2.2 : Nat)]) ∧ ROwnL w.heap.size w' v (L6.parse s).1 ∧ Below w.heap.size w w'
set_option maxRecDepth 100000 in
set_option maxHeartbeats 2000000 in
theorem rparse_any (s : List UInt8) (w : World) (hs : s.length ≤ 1000000000) : Calls Tryd.prog 13 #[.string ⟨s.toArray⟩] w (RParsePost w s) := by
  have HS := Lib.hid hs
  have CS := Lib.hid (fun W => rsplit_any s W hs)
  clear hs
  go_enter Tryd.func13, Tryd.ntmps13
  by_cases hlim : 32768 < (L6.split s).length
  · have hlim' : (32768 : Int) < (L6.split s).length := by omega
    have HP := Lib.hid (show L6.parse s = ([], 0, 6) from by unfold L6.parse; rw [if_pos hlim])
    clear hlim
    go_wp2_with (go_at_call 40; refine (CS.out _).mono ?_; rintro e w1 ⟨vs, rfl, hvs, hb1⟩; obtain ⟨A1, c1, rfl⟩ := hvs.form)
    go_ret3
    exact ⟨.slice none 0 0, by rw [HP.out]; rfl, by rw [HP.out]; exact ROwnL.nil _ _, hb1⟩
  · have hlim' : ((L6.split s).length : Int) ≤ 32768 := by omega
    have HLIM := Lib.hid (show (L6.split s).length ≤ 32768 from by omega)
    have HP := Lib.hid (show L6.parse s = L6.parseL 0 [] (L6.split s) from by unfold L6.parse; rw [if_neg hlim])
    clear hlim
    go_wp2_with (go_at_call 40; refine (CS.out _).mono ?_; rintro e w1 ⟨vs, rfl, hvs, hb1⟩; obtain ⟨A1, c1, rfl⟩ := hvs.form)
    go_loopw [6, 7] (fun v i wr => ∃ (ls : List L6.Line), i = .int .i64 (ls.length : Int) ∧ ls.length ≤ (L6.split s).length ∧ ROwnL w.heap.size wr v ls ∧ OwnS w.heap.size wr (.slice A1 (L6.split s).length c1) (L6.split s) ∧ Below w.heap.size w wr ∧ L6.parseL 0 [] (L6.split s) = L6.parseL ls.length ls ((L6.split s).drop ls.length)) (fun _ i _ => match i with | .int _ n => (L6.split s).length - n.toNat | _ => 0)
    case atStart => exact ⟨[], rfl, by simp, ROwnL.nil _ _, hvs, hb1, rfl⟩
    case round =>
      obtain ⟨ls, rfl, hle, hown, hvr, hbr, hp⟩ := hrel
      have HOWN := Lib.hid hown
      have HVR := Lib.hid hvr
      have HBR := Lib.hid hbr
      have HPP := Lib.hid hp
      have HLE := Lib.hid hle
      obtain ⟨AV, cV, rfl⟩ := hown.form
      clear hown hbr hp hvs hb1 CS
      by_cases hk : ls.length < (L6.split s).length
      · have hk' : (ls.length : Int) < ((L6.split s).length : Int) := by omega
        obtain ⟨g, off, c', e, hg, hcell⟩ := (OwnS.rd hvr).at hk
        injection e with e1 e2 e3
        subst e1 e3
        have hw1 : IntKind.i64.wrap ((ls.length : Int) + 1) = (ls.length : Int) + 1 := by have := HLIM.out; go_bits; exact trivial
        have hmem : (L6.split s).getD ls.length [] ∈ L6.split s := by rw [List.getD, List.getElem?_eq_getElem hk]; exact List.getElem_mem hk
        have hts : ((L6.split s).getD ls.length []).length ≤ 1000000000 := Nat.le_trans (L6.split_each s _ hmem) HS.out
        have hdr : (L6.split s).drop ls.length = (L6.split s).getD ls.length [] :: (L6.split s).drop (ls.length + 1) := by rw [List.drop_eq_getElem_cons hk]; simp [List.getD, hk]
        have HPN := Lib.hid (HPP.out.trans (by rw [hdr]))
        clear hmem hdr hle hvr
        generalize (L6.split s).getD ls.length [] = t at hcell hts HPN
        by_cases hbig : 256 < t.length
        · have hbig' : (256 : Int) < t.length := by omega
          have HR := Lib.hid (show L6.parse s = ([], ls.length + 1, 6) from by rw [HP.out, HPN.out]; unfold L6.parseL; rw [if_pos hbig])
          clear hbig
          go_wp2_with fail
          go_ret3
          exact ⟨.slice none 0 0, by rw [HR.out]; rfl, by rw [HR.out]; exact ROwnL.nil _ _, HBR.out⟩
        · have hbig' : (t.length : Int) ≤ 256 := by omega
          have HBG := Lib.hid (show t.length ≤ 256 from by omega)
          have CW := rwords_any t wr hts
          cases hw : L6.wordsOf t with
          | none =>
            have HR := Lib.hid (show L6.parse s = ([], ls.length + 1, 40) from by rw [HP.out, HPN.out]; unfold L6.parseL; rw [if_neg hbig, hw])
            have CWN := Lib.hid (CW.mono (R' := fun e w' => e = .returned (.tuple #[.slice none 0 0, .bool false]) ∧ Below wr.heap.size wr w') (fun e w' hh => by rw [hw] at hh; exact hh))
            clear hbig CW hw
            go_wp2_with (go_at_call 41; refine CWN.out.mono ?_; rintro e w' ⟨rfl, hbw⟩)
            go_ret3
            exact ⟨.slice none 0 0, by rw [HR.out]; rfl, by rw [HR.out]; exact ROwnL.nil _ _, HBR.out.trans (hbw.mono HBR.out.size)⟩
          | some ws =>
            have HWB := Lib.hid (L6.wordsOf_bound hw)
            have HPM := Lib.hid (show L6.parseL 0 [] (L6.split s) = L6.parseL (ls.length + 1) (ls ++ [L6.line ws]) ((L6.split s).drop (ls.length + 1)) from by rw [HPN.out]; conv => lhs; unfold L6.parseL; rw [if_neg hbig, hw])
            have CWS := Lib.hid (CW.mono (R' := fun e w' => ∃ v, e = .returned (.tuple #[v, .bool true]) ∧ OwnS wr.heap.size w' v ws ∧ Below wr.heap.size wr w') (fun e w' hh => by rw [hw] at hh; exact hh))
            have CLN := Lib.hid (fun v W (h : OwnS wr.heap.size W v ws) => rline_any v ws W h.rd (by have := HWB.out.1; have := HBG.out; omega) (fun x hx => by have := HWB.out.2 x hx; have := HBG.out; omega))
            have HL1 := Lib.hid (show (ls.length + 1) * 64 ≤ 140737488355328 from by have := HLE.out; have := HLIM.out; omega)
            have HL2 := Lib.hid (show ls.length + 1 ≤ maxLen from by have := HLE.out; have := HLIM.out; unfold maxLen; omega)
            obtain ⟨cs, hcs1, hcs2⟩ := HOWN.out
            have HC1 := Lib.hid hcs1
            have HC2 := Lib.hid hcs2
            clear hbig CW hw hcs1 hcs2
            go_wp2_with (first
              | (go_at_call 41; refine CWS.out.mono ?_; rintro e w' ⟨vw, rfl, hvw, hbw⟩)
              | (go_at_call 42; refine (CLN.out _ _ hvw).mono ?_; rintro e w4 ⟨vl, va, rfl, hl4, ha4, hb4⟩; have hbb := (hbw.trans (hb4.mono hbw.size)).alloc (Nat.le_trans hbw.size hb4.size) (.cells #[vl, .string ⟨(L6.line ws).word.toArray⟩, va] 47))
              | (at_builtin; refine wpList_appendRB rfl _ _ _ _ rfl rlrt (by decide) w.heap.size _ rfl ls.length cs (own_kept HC1.out hbb) _ rfl 1 [vl, .string ⟨(L6.line ws).word.toArray⟩, va] (Rd.src rlrt (Rd.built (Bk.fresh w4 _ #[vl, .string ⟨(L6.line ws).word.toArray⟩, va]) rfl) (rone3 hl4 ha4)) HL1.out HL2.out (Nat.le_trans HBR.out.size hbb.size) ?_; intro v3 w3 ho3 hb3 hg3 _; have HO3 := Lib.hid ho3; obtain ⟨A3, c3, rfl⟩ := (Rd.of_own ho3).form; clear ho3))
            go_roundw
            case rel =>
              have hb45 : Below w4.heap.size w4 (w4.alloc (.cells #[vl, .string ⟨(L6.line ws).word.toArray⟩, va] 47)) := (Below.refl _ _).alloc (Nat.le_refl _) _
              have hz := HBR.out.size
              have hz2 := hbw.size
              have hown5 := own_kept HC1.out hbb
              refine ⟨ls ++ [L6.line ws], by simp, by simp; omega, ?_, ?_, (HBR.out.trans (hbb.mono hz)).trans hb3, by rw [HPM.out]; simp⟩
              · simpa using ROwnL.grown HC2.out hown5 hbb ((hl4.rebase (by omega)).kept hb45) ((ha4.rebase (by omega)).kept hb45) HO3.out hg3
              · exact OwnS.grown hown5 hg3 (HVR.out.kept hbb)
            case measure => simp; omega
      · have hge : ((L6.split s).length : Int) ≤ (ls.length : Int) := by omega
        have HR := Lib.hid (show L6.parse s = (ls, 0, 0) from by rw [HP.out, HPP.out, List.drop_of_length_le (by omega)]; rfl)
        go_wp2_with fail
        go_ret3
        exact ⟨_, by rw [HR.out]; rfl, by rw [HR.out]; exact HOWN.out, HBR.out⟩
end Go.Proofs.YtbkgpnilodjdiaaDoor
