/- Layer 12: words that make words: makes, begin, flag. -/
import Derived.Test.YtfafdkbnmfpbmaaDoorXcBegins
import Derived.Test.YtfafdkbnmfpbmaaDoorXcRight
namespace Go.Proofs.YtfafdkbnmfpbmaaDoor
open Go.RowKit Kit
set_option linter.unusedVariables false
set_option linter.unusedSimpArgs false

/-- What a step yields: an error, or the compiler goes on. -/
def Xc.RPost (F : Nat → Prop) (w : World) (gm : Nat) (tag : List UInt8) (r : Xc.R) (e : Ending) (w' : World) : Prop :=
  match r with
  | .bad n => e = .returned (.int .i64 (n : Int)) ∧ ∃ F', Step F w F' w'
  | .ok S1 => e = .returned (.int .i64 0) ∧ Xc.To F w gm tag S1 w'
  | .stuck => False
theorem xmakes_any (c : List UInt8) (w : World) : Calls Tryd.prog 106 #[.string ⟨c.toArray⟩] w fun e w' => e = .returned (.tuple #[.string ⟨((Xc.makes c).getD []).toArray⟩, .bool (Xc.makes c).isSome]) ∧ w = w' := by
  by_cases hColon : c = [58]
  · subst hColon
    go_enter Tryd.func106, Tryd.ntmps106
    go_wp2_with fail
    go_ret2
    exact ⟨rfl, rfl⟩
  by_cases hColons : c = [58, 58]
  · subst hColons
    go_enter Tryd.func106, Tryd.ntmps106
    go_wp2_with fail
    go_ret2
    exact ⟨rfl, rfl⟩
  by_cases hVar : c = [86, 65, 82, 73, 65, 66, 76, 69]
  · subst hVar
    have CT := Lib.hid (fun W => Tryd.strings_TrimPrefix ⟨#[86, 65, 82, 73, 65, 66, 76, 69]⟩ ⟨#[58, 58]⟩ W)
    go_enter Tryd.func106, Tryd.ntmps106
    go_wp2_with (go_at_call 136; refine (CT.out _).mono ?_; rintro e w' ⟨rfl, rfl⟩)
    go_ret2
    exact ⟨rfl, rfl⟩
  by_cases hVars : c = [58, 58, 86, 65, 82, 73, 65, 66, 76, 69]
  · subst hVars
    have CT := Lib.hid (fun W => Tryd.strings_TrimPrefix ⟨#[58, 58, 86, 65, 82, 73, 65, 66, 76, 69]⟩ ⟨#[58, 58]⟩ W)
    go_enter Tryd.func106, Tryd.ntmps106
    go_wp2_with (go_at_call 136; refine (CT.out _).mono ?_; rintro e w' ⟨rfl, rfl⟩)
    go_ret2
    exact ⟨rfl, rfl⟩
  by_cases hCon : c = [67, 79, 78, 83, 84, 65, 78, 84]
  · subst hCon
    have CT := Lib.hid (fun W => Tryd.strings_TrimPrefix ⟨#[67, 79, 78, 83, 84, 65, 78, 84]⟩ ⟨#[58, 58]⟩ W)
    go_enter Tryd.func106, Tryd.ntmps106
    go_wp2_with (go_at_call 136; refine (CT.out _).mono ?_; rintro e w' ⟨rfl, rfl⟩)
    go_ret2
    exact ⟨rfl, rfl⟩
  by_cases hCons : c = [58, 58, 67, 79, 78, 83, 84, 65, 78, 84]
  · subst hCons
    have CT := Lib.hid (fun W => Tryd.strings_TrimPrefix ⟨#[58, 58, 67, 79, 78, 83, 84, 65, 78, 84]⟩ ⟨#[58, 58]⟩ W)
    go_enter Tryd.func106, Tryd.ntmps106
    go_wp2_with (go_at_call 136; refine (CT.out _).mono ?_; rintro e w' ⟨rfl, rfl⟩)
    go_ret2
    exact ⟨rfl, rfl⟩
  have HP := Lib.hid (show Xc.makes c = none from by unfold Xc.makes; rw [if_neg (fun h => h.elim hColon hColons), if_neg (fun h => h.elim hVar hVars), if_neg (fun h => h.elim hCon hCons)])
  have eColon : (c == [58]) = false := by simpa using hColon
  have eColons : (c == [58, 58]) = false := by simpa using hColons
  have eVar : (c == [86, 65, 82, 73, 65, 66, 76, 69]) = false := by simpa using hVar
  have eVars : (c == [58, 58, 86, 65, 82, 73, 65, 66, 76, 69]) = false := by simpa using hVars
  have eCon : (c == [67, 79, 78, 83, 84, 65, 78, 84]) = false := by simpa using hCon
  have eCons : (c == [58, 58, 67, 79, 78, 83, 84, 65, 78, 84]) = false := by simpa using hCons
  clear hColon hColons hVar hVars hCon hCons
  go_enter Tryd.func106, Tryd.ntmps106
  go_wp2_with fail
  go_ret2
  rw [HP.out]
  exact ⟨rfl, rfl⟩
theorem Xc.Mk.setF {F : Nat → Prop} {W : World} {gm : Nat} {tag : List UInt8} {S S' : Xc.S} (h : Xc.Mk F W gm tag S) (i : Nat) (u : Value) (hw : S'.words = S.words) (ho : S'.opens = S.opens)
    (hc : ∀ vw vo, (Xc.cells S tag vw vo).setIfInBounds i u = Xc.cells S' tag vw vo) : Xc.Mk F (W.setCell ⟨gm, i, none⟩ u) gm tag S' ∧ Step F W F (W.setCell ⟨gm, i, none⟩ u) := by
  obtain ⟨vw, vo, cs, h1, h2, h3, h4, h5, h6, h7, h8⟩ := h.obj
  have hs := But.setCell W gm i u
  have hb := h1.set i u
  rw [hc] at hb
  refine ⟨⟨⟨vw, vo, cs, hb, ?_, ?_, h4, ?_, h6, h7, h8⟩, h.gm, fun k hk => ?_⟩, Fr.of_but hs h.gm, fun k hk => .inl hk⟩
  · rw [hw]; exact own_but h2 h1 (by decide) hs
  · rw [hw]
    exact h3.mapIf (P := fun _ => True) (fun u l _ hz => own_but hz h1 (by decide) hs) (fun _ _ => trivial)
  · rw [ho]; exact own_but h5 h1 (by decide) hs
  · have := h.lt k hk; simpa [World.setCell] using this
set_option maxRecDepth 100000 in
set_option maxHeartbeats 2000000 in
theorem xbegin_any {F : Nat → Prop} {w : World} {gm : Nat} {tag : List UInt8} {S : Xc.S} (h : Xc.Mk F w gm tag S) (hok : Xc.Ok 10 S) (c : List UInt8) :
    Calls Tryd.prog 139 #[.pointer (some ⟨gm, 0, none⟩), .string ⟨c.toArray⟩] w (Xc.RPost F w gm tag (Xc.begin c S)) := by
  have hsn := h.seen
  have CN := Lib.hid (xnext_any gm S.s w hsn.c0 (hsn.f 0) (by have := hok.s; omega))
  obtain ⟨m1, s1⟩ := h.setF 0 (.string ⟨(Xc.rest S.s).toArray⟩) (S' := Xc.atRest (Xc.rest S.s) S) rfl rfl (fun vw vo => by simp [Xc.cells, Xc.atRest])
  obtain ⟨m2, s2⟩ := m1.setF 4 (.string ⟨(Xc.word S.s).toArray⟩) (S' := Xc.named S) rfl rfl (fun vw vo => by simp [Xc.cells, Xc.atRest, Xc.named])
  have hst := s1.trans s2
  have hsn2 := m2.seen
  have k0 := hsn.c4
  have f4 := hsn.f 4
  have hwl := Xc.word_rest S.s
  have hsl := hok.s
  have hwt := hok.weight
  have hwn := Xc.weight_len S.words
  have g4 := hsn2.c4
  have CR := Lib.hid (fun W => xright_own ⟨(Xc.word S.s).toArray⟩ W (by show (Xc.word S.s).length ≤ maxLen; unfold maxLen; omega))
  have CP := Lib.hid (fun W => Tryd.strings_HasPrefix ⟨c.toArray⟩ ⟨#[58, 58]⟩ W)
  have HB := Lib.hid (show Xc.begin c S = (if Xc.word S.s = [] then .bad 40 else if Nm.right (Xc.word S.s) = false then .bad 41 else .ok (Xc.addW ((if Lib.hasPrefix c Xc.tColons then Xc.lPart else Xc.lDef) ++ Xc.word S.s) (Xc.named S))) from rfl)
  have HST := Lib.hid hst
  have HM2 := Lib.hid m2
  have hsz : (w.setCell ⟨gm, 0, none⟩ (.string ⟨(Xc.rest S.s).toArray⟩)).heap.size = w.heap.size := by simp [World.setCell]
  obtain ⟨vw0, vo0, cs0, hb0, _⟩ := m2.obj
  clear h hok hsn m1 s1 m2 s2 hst hsn2
  have HS := Lib.hid (show S.words.length ≤ 2000000000 ∧ (Xc.word S.s).length ≤ 100000 from by omega)
  clear hwl hsl hwt hwn
  obtain ⟨nm, hnm⟩ : ∃ nm, Xc.word S.s = nm := ⟨_, rfl⟩
  rw [hnm] at CN g4 CR HB HS HST HM2
  have e4 : (Xc.named S).name = nm := hnm
  rw [e4] at g4
  clear hnm e4
  cases nm with
  | nil =>
    rw [if_pos rfl] at HB
    go_enter Tryd.func139, Tryd.ntmps139
    go_wp2_with (go_at_call 79; refine CN.out.mono ?_; rintro e w' ⟨rfl, rfl⟩)
    go_ret
    rw [HB.out]
    exact ⟨rfl, F, HST.out⟩
  | cons c0 t0 =>
    rw [if_neg (by simp)] at HB
    cases hr : Nm.right (c0 :: t0)
    · rw [hr, if_pos rfl] at HB
      have CR := Lib.hid (fun W => (CR.out W).mono (R' := fun e w' => e = .returned (.bool false) ∧ W = w') (fun e w' h => ⟨h.1.trans (congrArg (fun x => Ending.returned (.bool x)) hr), h.2⟩))
      clear hr
      go_enter Tryd.func139, Tryd.ntmps139
      go_wp2_with (first | (go_at_call 79; refine CN.out.mono ?_; rintro e w' ⟨rfl, rfl⟩) | (go_at_call 40; refine (CR.out _).mono ?_; rintro e w' ⟨rfl, rfl⟩))
      go_ret
      rw [HB.out]
      exact ⟨rfl, F, HST.out⟩
    · rw [hr, if_neg (by decide)] at HB
      have CR := Lib.hid (fun W => (CR.out W).mono (R' := fun e w' => e = .returned (.bool true) ∧ W = w') (fun e w' h => ⟨h.1.trans (congrArg (fun x => Ending.returned (.bool x)) hr), h.2⟩))
      clear hr
      have hn1 : ¬ (c0 :: t0 = []) := by simp
      have hn2 : (c0 :: t0 == []) = false := by simp
      have hn3 : (c0 :: t0).isEmpty = false := rfl
      generalize c0 :: t0 = nm at *
      obtain ⟨z, hz⟩ : ∃ z, (if Lib.hasPrefix c Xc.tColons = true then Xc.lPart else Xc.lDef) ++ nm = z := ⟨_, rfl⟩
      rw [hz] at HB
      obtain ⟨vw, vo, cs, hb2, ho2, hadd⟩ := HM2.out.addW (w1 := w) (f := z)
      have e2 : ((w.setCell ⟨gm, 0, none⟩ (.string ⟨(Xc.rest S.s).toArray⟩)).setCell ⟨gm, 4, none⟩ (.string ⟨nm.toArray⟩)).cell? ⟨gm, 2, none⟩ = w.cell? ⟨gm, 2, none⟩ := (World.cell?_setCell_other _ _ _ _ (by intro h; cases h)).trans (World.cell?_setCell_other _ _ _ _ (by intro h; cases h))
      have k2 := e2.symm.trans (hb2.cell 2)
      simp only [Xc.cells, List.getElem?_toArray, List.getElem?_cons_succ, List.getElem?_cons_zero] at k2
      obtain ⟨A, cap, rfl⟩ := (Rd.of_own ho2).form
      have hal : Below ((w.setCell ⟨gm, 0, none⟩ (.string ⟨(Xc.rest S.s).toArray⟩)).setCell ⟨gm, 4, none⟩ (.string ⟨nm.toArray⟩)).heap.size ((w.setCell ⟨gm, 0, none⟩ (.string ⟨(Xc.rest S.s).toArray⟩)).setCell ⟨gm, 4, none⟩ (.string ⟨nm.toArray⟩)) (((w.setCell ⟨gm, 0, none⟩ (.string ⟨(Xc.rest S.s).toArray⟩)).setCell ⟨gm, 4, none⟩ (.string ⟨nm.toArray⟩)).alloc (.cells #[.string ⟨z.toArray⟩, .int .i64 0, .slice none 0 0] 89)) := (Below.refl _ _).alloc (Nat.le_refl _) _
      have HOW := Lib.hid (own_kept ho2 hal)
      have HSR := Lib.hid (show Src Tryd.prog 3 79 (.slice (some ⟨w.heap.size, 0, none⟩) 1 1) 1 [.string ⟨z.toArray⟩, .int .i64 0, .slice none 0 0] (((w.setCell ⟨gm, 0, none⟩ (.string ⟨(Xc.rest S.s).toArray⟩)).setCell ⟨gm, 4, none⟩ (.string ⟨nm.toArray⟩)).alloc (.cells #[.string ⟨z.toArray⟩, .int .i64 0, .slice none 0 0] 89)) from by
        have := Rd.src xwrt (Rd.built (Bk.fresh ((w.setCell ⟨gm, 0, none⟩ (.string ⟨(Xc.rest S.s).toArray⟩)).setCell ⟨gm, 4, none⟩ (.string ⟨nm.toArray⟩)) 89 #[.string ⟨z.toArray⟩, .int .i64 0, .slice none 0 0]) rfl) (by intro u hu; simp at hu; rcases hu with rfl | rfl | rfl <;> rfl)
        rw [show ((w.setCell ⟨gm, 0, none⟩ (.string ⟨(Xc.rest S.s).toArray⟩)).setCell ⟨gm, 4, none⟩ (.string ⟨nm.toArray⟩)).heap.size = w.heap.size by simp [World.setCell]] at this
        exact this)
      have HL1 := Lib.hid (show ((Xc.named S).words.length + 1) * 48 ≤ 140737488355328 from by have := HS.out.1; show (S.words.length + 1) * 48 ≤ _; omega)
      have HL2 := Lib.hid (show (Xc.named S).words.length + 1 ≤ maxLen from by have := HS.out.1; show S.words.length + 1 ≤ _; unfold maxLen; omega)
      have HP := Lib.hid (fun v' w1 ho hg hv => hadd _ v' w1 hal ho hg hv)
      have hsum4 : ¬ 9223372036854775807 < 4 + nm.length := by have := HS.out.2; omega
      have hsum5 : ¬ 9223372036854775807 < 5 + nm.length := by have := HS.out.2; omega
      have e41 : (⟨#[100, 101, 102, 32]⟩ : ByteArray) ++ ⟨nm.toArray⟩ = ⟨(Xc.lDef ++ nm).toArray⟩ := app_eq [100, 101, 102, 32] nm
      have e42 : (⟨#[112, 97, 114, 116, 32]⟩ : ByteArray) ++ ⟨nm.toArray⟩ = ⟨(Xc.lPart ++ nm).toArray⟩ := app_eq [112, 97, 114, 116, 32] nm
      clear hb2 ho2 hadd e2 hal hb0
      generalize (Xc.named S).words.length = n at *
      cases hp : Lib.hasPrefix c Xc.tColons
      all_goals
        rw [hp] at hz
        have CP := Lib.hid (fun W => (CP.out W).mono (R' := fun e w' => e = .returned (.bool _) ∧ W = w') (fun e w' h => ⟨h.1.trans (congrArg (fun x => Ending.returned (.bool x)) hp), h.2.symm⟩))
        clear hp
        first
          | rw [if_neg (by decide)] at hz
          | rw [if_pos rfl] at hz
        rw [hz] at *
        clear hz
        go_enter Tryd.func139, Tryd.ntmps139
        go_wp2_with (first | (go_at_call 79; refine CN.out.mono ?_; rintro e w' ⟨rfl, rfl⟩) | (go_at_call 40; refine (CR.out _).mono ?_; rintro e w' ⟨rfl, rfl⟩) | (go_at_call 35; refine (CP.out _).mono ?_; rintro e w' ⟨rfl, rfl⟩) | (at_builtin; refine wpList_appendRB rfl _ _ _ _ rfl xwrt (by decide) 0 _ rfl n cs HOW.out _ rfl 1 [.string ⟨z.toArray⟩, .int .i64 0, .slice none 0 0] HSR.out HL1.out HL2.out (Nat.zero_le _) ?_; intro v' w9 ho9 hb9 hg9 hv9; obtain ⟨A9, c9, rfl⟩ := (Rd.of_own ho9).form; obtain ⟨d2, f2, hm⟩ := HP.out _ _ ho9 hg9 hv9; clear ho9 hb9 hg9 hv9))
        go_ret
        rw [HB.out]
        exact ⟨rfl, hm.out.after HST.out⟩
end Go.Proofs.YtfafdkbnmfpbmaaDoor
