/- Layer 12: words within one that is made. -/
import Derived.Test.YtfafdkbnmfpbmaaDoorXcIn
namespace Go.Proofs.YtfafdkbnmfpbmaaDoor
open Go.RowKit Kit
set_option linter.unusedVariables false
set_option linter.unusedSimpArgs false

set_option maxRecDepth 100000 in
set_option maxHeartbeats 4000000 in
theorem xin_Semi {F : Nat → Prop} {w : World} {gm : Nat} {tag : List UInt8} {S : Xc.S} (h : Xc.Mk F w gm tag S) (hne : S.words ≠ []) (hok : Xc.Ok 0 S) (hT : Xc.Tb F w) (ht : tag.length ≤ 31) (hb : Xc.begins tag [59] S = none) (he : Xc.ends tag [59] S = none) (hm : Xc.makes [59] = none) :
    Calls Tryd.prog 81 #[.pointer (some ⟨gm, 0, none⟩), .string ⟨#[59]⟩] w (Xc.RPost F w gm tag (Xc.inside2 [59] S)) := by
  have CB := Lib.hid (xbegins_any h hne (hok.mono (by omega)) hT ht [59])
  have CE := Lib.hid (xends_any h hne (hok.mono (by omega)) hT ht [59])
  have CM := Lib.hid (fun W => xmakes_any [59] W)
  rw [hb] at CB
  rw [he] at CE
  rw [hm] at CM
  have HM := Lib.hid h
  have HNE := Lib.hid hne
  have HOK := Lib.hid hok
  have f3 := h.seen.f 3
  have d3 := h.seen.c3
  cases hS : S.opens with
  | nil =>
    have HP := Lib.hid (show Xc.inside2 Xc.tSemi S = .ok (Xc.leave (Xc.inIt false S)) from by unfold Xc.inside2; rw [if_pos rfl, hS]; rfl)
    obtain ⟨vw, vo, cs, h1, _, _, _, h5, _⟩ := h.obj
    rw [hS] at h5
    obtain ⟨A, cc, rfl⟩ := (Rd.of_own h5).form
    have c5 := h1.cell 5
    simp only [Xc.cells, List.getElem?_toArray, List.getElem?_cons_succ, List.getElem?_cons_zero, List.length_nil] at c5
    obtain ⟨m1, s1⟩ := h.setF 3 (.bool false) (S' := Xc.inIt false S) rfl rfl (fun vw vo => by simp [Xc.cells, Xc.inIt])
    have CL := Lib.hid (xleave_any m1 hne ((hok.inIt false).mono (by omega)))
    have HST := Lib.hid s1
    clear h hne hok hT ht hb he hm hS h1 h5 m1 s1
    go_enter Tryd.func81, Tryd.ntmps81
    go_wp2_with (first | (go_at_call 104; refine CB.out.mono ?_; rintro e w' ⟨rfl, rfl⟩) | (go_at_call 105; refine CE.out.mono ?_; rintro e w' ⟨rfl, rfl⟩) | (go_at_call 106; refine (CM.out _).mono ?_; rintro e w' ⟨rfl, rfl⟩) | (go_at_call 107; refine CL.out.mono ?_; rintro e w2 ⟨rfl, F2, hm2, st2⟩))
    go_ret
    rw [show ([59] : List UInt8) = Xc.tSemi from rfl, HP.out]
    exact ⟨rfl, F2, hm2, HST.out.trans st2⟩
  | cons p r =>
    have HP := Lib.hid (show Xc.inside2 Xc.tSemi S = .bad 44 from by unfold Xc.inside2; rw [if_pos rfl, hS]; rfl)
    obtain ⟨vw, gw, cap, h1, hnc, hcm, hgw, e0, e1, htop⟩ := h.pop hS
    have c5 := h1.cell 5
    simp only [Xc.cells, List.getElem?_toArray, List.getElem?_cons_succ, List.getElem?_cons_zero] at c5
    have hgt : (0 : Int) < ((r.length + 1 : Nat) : Int) := by omega
    have hgt' : (0 : Int) < (r.length : Int) + 1 := by omega
    clear h hne hok hT ht hb he hm hS h1 htop e0 e1
    go_enter Tryd.func81, Tryd.ntmps81
    go_wp2_with (first | (go_at_call 104; refine CB.out.mono ?_; rintro e w' ⟨rfl, rfl⟩) | (go_at_call 105; refine CE.out.mono ?_; rintro e w' ⟨rfl, rfl⟩) | (go_at_call 106; refine (CM.out _).mono ?_; rintro e w' ⟨rfl, rfl⟩))
    go_ret
    rw [show ([59] : List UInt8) = Xc.tSemi from rfl, HP.out]
    exact ⟨rfl, F, Step.refl F w⟩
set_option maxRecDepth 100000 in
set_option maxHeartbeats 4000000 in
theorem xin_Exit {F : Nat → Prop} {w : World} {gm : Nat} {tag : List UInt8} {S : Xc.S} (h : Xc.Mk F w gm tag S) (hne : S.words ≠ []) (hok : Xc.Ok 0 S) (hT : Xc.Tb F w) (ht : tag.length ≤ 31) (hb : Xc.begins tag [69, 88, 73, 84] S = none) (he : Xc.ends tag [69, 88, 73, 84] S = none) (hm : Xc.makes [69, 88, 73, 84] = none) :
    Calls Tryd.prog 81 #[.pointer (some ⟨gm, 0, none⟩), .string ⟨#[69, 88, 73, 84]⟩] w (Xc.RPost F w gm tag (Xc.inside2 [69, 88, 73, 84] S)) := by
  have CB := Lib.hid (xbegins_any h hne (hok.mono (by omega)) hT ht [69, 88, 73, 84])
  have CE := Lib.hid (xends_any h hne (hok.mono (by omega)) hT ht [69, 88, 73, 84])
  have CM := Lib.hid (fun W => xmakes_any [69, 88, 73, 84] W)
  rw [hb] at CB
  rw [he] at CE
  rw [hm] at CM
  have CL := Lib.hid (xleave_any h hne (hok.mono (by omega)))
  have HP := Lib.hid (show Xc.inside2 Xc.tExit S = .ok (Xc.leave S) from by unfold Xc.inside2; rw [if_neg (by decide), if_pos rfl])
  clear h hne hok hT ht hb he hm
  go_enter Tryd.func81, Tryd.ntmps81
  go_wp2_with (first | (go_at_call 104; refine CB.out.mono ?_; rintro e w' ⟨rfl, rfl⟩) | (go_at_call 105; refine CE.out.mono ?_; rintro e w' ⟨rfl, rfl⟩) | (go_at_call 106; refine (CM.out _).mono ?_; rintro e w' ⟨rfl, rfl⟩) | (go_at_call 107; refine CL.out.mono ?_; rintro e w2 ⟨rfl, F2, hm2, st2⟩))
  go_ret
  rw [show ([69, 88, 73, 84] : List UInt8) = Xc.tExit from rfl, HP.out]
  exact ⟨rfl, F2, hm2, st2⟩
set_option maxRecDepth 100000 in
set_option maxHeartbeats 4000000 in
theorem xin_Rec {F : Nat → Prop} {w : World} {gm : Nat} {tag : List UInt8} {S : Xc.S} (h : Xc.Mk F w gm tag S) (hne : S.words ≠ []) (hok : Xc.Ok 0 S) (hT : Xc.Tb F w) (ht : tag.length ≤ 31) (hb : Xc.begins tag [82, 69, 67, 85, 82, 83, 69] S = none) (he : Xc.ends tag [82, 69, 67, 85, 82, 83, 69] S = none) (hm : Xc.makes [82, 69, 67, 85, 82, 83, 69] = none) :
    Calls Tryd.prog 81 #[.pointer (some ⟨gm, 0, none⟩), .string ⟨#[82, 69, 67, 85, 82, 83, 69]⟩] w (Xc.RPost F w gm tag (Xc.inside2 [82, 69, 67, 85, 82, 83, 69] S)) := by
  have CB := Lib.hid (xbegins_any h hne (hok.mono (by omega)) hT ht [82, 69, 67, 85, 82, 83, 69])
  have CE := Lib.hid (xends_any h hne (hok.mono (by omega)) hT ht [82, 69, 67, 85, 82, 83, 69])
  have CM := Lib.hid (fun W => xmakes_any [82, 69, 67, 85, 82, 83, 69] W)
  rw [hb] at CB
  rw [he] at CE
  rw [hm] at CM
  have d4 := h.seen.c4
  have HM := Lib.hid h
  have HNE := Lib.hid hne
  have HOK := Lib.hid hok
  obtain ⟨z, hz⟩ : ∃ z, Xc.lCall ++ Xc.label0 S.name = z := ⟨_, rfl⟩
  have ez : (⟨#[99, 97, 108, 108, 32]⟩ : ByteArray) ++ ⟨(Xc.label0 S.name).toArray⟩ = ⟨z.toArray⟩ := by rw [← hz]; exact app_eq Xc.lCall _
  have hll : (Xc.label0 S.name).length ≤ 100002 := by have := hok.name; unfold Xc.label0 Xc.lZero; simp only [List.length_append, List.length_cons, List.length_nil] at *; omega
  have hsum : ¬ 9223372036854775807 < 5 + (Xc.label0 S.name).length := by omega
  have CLB := Lib.hid (fun W => xlabel0_any S.name W hok.name)
  have HP := Lib.hid (show Xc.inside2 Xc.tRec S = .ok (Xc.put [z] S) from by unfold Xc.inside2; rw [if_neg (by decide), if_neg (by decide), if_pos rfl, hz])
  clear h hne hok hT ht hb he hm hz hll
  generalize Xc.label0 S.name = lb at *
  go_enter Tryd.func81, Tryd.ntmps81
  go_wp2_with (first | (go_at_call 104; refine CB.out.mono ?_; rintro e w' ⟨rfl, rfl⟩) | (go_at_call 105; refine CE.out.mono ?_; rintro e w' ⟨rfl, rfl⟩) | (go_at_call 106; refine (CM.out _).mono ?_; rintro e w' ⟨rfl, rfl⟩) | (go_at_call 112; refine (CLB.out _).mono ?_; rintro e w2 ⟨rfl, hb2⟩))
  have HM2 := Lib.hid (HM.out.kept hb2)
  have hbe4 : Below w2.heap.size w2 (w2.alloc (.cells #[.string ⟨z.toArray⟩] 9)) := (Below.refl _ _).alloc (Nat.le_refl _) _
  have C4 := Lib.hid (show Calls Tryd.prog 44 #[.pointer (some ⟨gm, 0, none⟩), .slice (some ⟨w2.heap.size, 0, none⟩) 1 1] (w2.alloc (.cells #[.string ⟨z.toArray⟩] 9)) fun e w' => e = .returned (.tuple #[]) ∧ Xc.To F (w2.alloc (.cells #[.string ⟨z.toArray⟩] 9)) gm tag (Xc.put [z] (S)) w' from
    xput_any (HM2.out.kept hbe4) HNE.out (HOK.out.mono (by omega)) (.slice (some ⟨w2.heap.size, 0, none⟩) 1 1) [z] (rd_new [z] (Bk.fresh w2 _ _) (by simp)) (by simp))
  have HBE4 := Lib.hid hbe4
  clear hbe4
  go_wp2_with (go_at_call 44; refine C4.out.mono ?_)
  rintro e w4 ⟨rfl, F4, hm4, st4⟩
  go_wp2_with fail
  go_ret
  rw [show ([82, 69, 67, 85, 82, 83, 69] : List UInt8) = Xc.tRec from rfl, HP.out]
  exact ⟨rfl, F4, hm4, (Step.of_below hb2).trans ((Step.of_below HBE4.out).trans st4)⟩
set_option maxRecDepth 100000 in
set_option maxHeartbeats 4000000 in
theorem xin_Tick {F : Nat → Prop} {w : World} {gm : Nat} {tag : List UInt8} {S : Xc.S} (h : Xc.Mk F w gm tag S) (hne : S.words ≠ []) (hok : Xc.Ok 0 S) (hT : Xc.Tb F w) (ht : tag.length ≤ 31) (hb : Xc.begins tag [91, 39, 93] S = none) (he : Xc.ends tag [91, 39, 93] S = none) (hm : Xc.makes [91, 39, 93] = none) :
    Calls Tryd.prog 81 #[.pointer (some ⟨gm, 0, none⟩), .string ⟨#[91, 39, 93]⟩] w (Xc.RPost F w gm tag (Xc.inside2 [91, 39, 93] S)) := by
  have CB := Lib.hid (xbegins_any h hne (hok.mono (by omega)) hT ht [91, 39, 93])
  have CE := Lib.hid (xends_any h hne (hok.mono (by omega)) hT ht [91, 39, 93])
  have CM := Lib.hid (fun W => xmakes_any [91, 39, 93] W)
  rw [hb] at CB
  rw [he] at CE
  rw [hm] at CM
  have CQ := Lib.hid (xquoted_any h hne (hok.mono (by omega)) hT Xc.tTick (by first | exact .inl rfl | exact .inr rfl))
  have HP := Lib.hid (show Xc.inside2 Xc.tTick S = Xc.quoted Xc.tTick S from by unfold Xc.inside2; rw [if_neg (by decide), if_neg (by decide), if_neg (by decide), if_neg (by decide), if_pos (by first | exact .inl rfl | exact .inr rfl)])
  clear h hne hok hT ht hb he hm
  generalize Xc.quoted Xc.tTick S = r at *
  cases r with
  | stuck =>
    go_enter Tryd.func81, Tryd.ntmps81
    go_wp2_with (first | (go_at_call 104; refine CB.out.mono ?_; rintro e w' ⟨rfl, rfl⟩) | (go_at_call 105; refine CE.out.mono ?_; rintro e w' ⟨rfl, rfl⟩) | (go_at_call 106; refine (CM.out _).mono ?_; rintro e w' ⟨rfl, rfl⟩) | (go_at_call 109; refine CQ.out.mono ?_; rintro e w2 hpost; exact absurd hpost id))
  | bad n =>
    go_enter Tryd.func81, Tryd.ntmps81
    go_wp2_with (first | (go_at_call 104; refine CB.out.mono ?_; rintro e w' ⟨rfl, rfl⟩) | (go_at_call 105; refine CE.out.mono ?_; rintro e w' ⟨rfl, rfl⟩) | (go_at_call 106; refine (CM.out _).mono ?_; rintro e w' ⟨rfl, rfl⟩) | (go_at_call 109; refine CQ.out.mono ?_; rintro e w2 ⟨rfl, F2, st2⟩))
    go_ret
    rw [show ([91, 39, 93] : List UInt8) = Xc.tTick from rfl, HP.out]
    exact ⟨rfl, F2, st2⟩
  | ok S1 =>
    go_enter Tryd.func81, Tryd.ntmps81
    go_wp2_with (first | (go_at_call 104; refine CB.out.mono ?_; rintro e w' ⟨rfl, rfl⟩) | (go_at_call 105; refine CE.out.mono ?_; rintro e w' ⟨rfl, rfl⟩) | (go_at_call 106; refine (CM.out _).mono ?_; rintro e w' ⟨rfl, rfl⟩) | (go_at_call 109; refine CQ.out.mono ?_; rintro e w2 ⟨rfl, F2, hm2, st2⟩))
    go_ret
    rw [show ([91, 39, 93] : List UInt8) = Xc.tTick from rfl, HP.out]
    exact ⟨rfl, F2, hm2, st2⟩
set_option maxRecDepth 100000 in
set_option maxHeartbeats 4000000 in
theorem xin_Char {F : Nat → Prop} {w : World} {gm : Nat} {tag : List UInt8} {S : Xc.S} (h : Xc.Mk F w gm tag S) (hne : S.words ≠ []) (hok : Xc.Ok 0 S) (hT : Xc.Tb F w) (ht : tag.length ≤ 31) (hb : Xc.begins tag [91, 67, 72, 65, 82, 93] S = none) (he : Xc.ends tag [91, 67, 72, 65, 82, 93] S = none) (hm : Xc.makes [91, 67, 72, 65, 82, 93] = none) :
    Calls Tryd.prog 81 #[.pointer (some ⟨gm, 0, none⟩), .string ⟨#[91, 67, 72, 65, 82, 93]⟩] w (Xc.RPost F w gm tag (Xc.inside2 [91, 67, 72, 65, 82, 93] S)) := by
  have CB := Lib.hid (xbegins_any h hne (hok.mono (by omega)) hT ht [91, 67, 72, 65, 82, 93])
  have CE := Lib.hid (xends_any h hne (hok.mono (by omega)) hT ht [91, 67, 72, 65, 82, 93])
  have CM := Lib.hid (fun W => xmakes_any [91, 67, 72, 65, 82, 93] W)
  rw [hb] at CB
  rw [he] at CE
  rw [hm] at CM
  have CQ := Lib.hid (xquoted_any h hne (hok.mono (by omega)) hT Xc.tChar (by first | exact .inl rfl | exact .inr rfl))
  have HP := Lib.hid (show Xc.inside2 Xc.tChar S = Xc.quoted Xc.tChar S from by unfold Xc.inside2; rw [if_neg (by decide), if_neg (by decide), if_neg (by decide), if_neg (by decide), if_pos (by first | exact .inl rfl | exact .inr rfl)])
  clear h hne hok hT ht hb he hm
  generalize Xc.quoted Xc.tChar S = r at *
  cases r with
  | stuck =>
    go_enter Tryd.func81, Tryd.ntmps81
    go_wp2_with (first | (go_at_call 104; refine CB.out.mono ?_; rintro e w' ⟨rfl, rfl⟩) | (go_at_call 105; refine CE.out.mono ?_; rintro e w' ⟨rfl, rfl⟩) | (go_at_call 106; refine (CM.out _).mono ?_; rintro e w' ⟨rfl, rfl⟩) | (go_at_call 109; refine CQ.out.mono ?_; rintro e w2 hpost; exact absurd hpost id))
  | bad n =>
    go_enter Tryd.func81, Tryd.ntmps81
    go_wp2_with (first | (go_at_call 104; refine CB.out.mono ?_; rintro e w' ⟨rfl, rfl⟩) | (go_at_call 105; refine CE.out.mono ?_; rintro e w' ⟨rfl, rfl⟩) | (go_at_call 106; refine (CM.out _).mono ?_; rintro e w' ⟨rfl, rfl⟩) | (go_at_call 109; refine CQ.out.mono ?_; rintro e w2 ⟨rfl, F2, st2⟩))
    go_ret
    rw [show ([91, 67, 72, 65, 82, 93] : List UInt8) = Xc.tChar from rfl, HP.out]
    exact ⟨rfl, F2, st2⟩
  | ok S1 =>
    go_enter Tryd.func81, Tryd.ntmps81
    go_wp2_with (first | (go_at_call 104; refine CB.out.mono ?_; rintro e w' ⟨rfl, rfl⟩) | (go_at_call 105; refine CE.out.mono ?_; rintro e w' ⟨rfl, rfl⟩) | (go_at_call 106; refine (CM.out _).mono ?_; rintro e w' ⟨rfl, rfl⟩) | (go_at_call 109; refine CQ.out.mono ?_; rintro e w2 ⟨rfl, F2, hm2, st2⟩))
    go_ret
    rw [show ([91, 67, 72, 65, 82, 93] : List UInt8) = Xc.tChar from rfl, HP.out]
    exact ⟨rfl, F2, hm2, st2⟩
set_option maxRecDepth 100000 in
set_option maxHeartbeats 4000000 in
theorem xin_Other {F : Nat → Prop} {w : World} {gm : Nat} {tag : List UInt8} {S : Xc.S} (h : Xc.Mk F w gm tag S) (hne : S.words ≠ []) (hok : Xc.Ok 0 S) (hT : Xc.Tb F w) (ht : tag.length ≤ 31) (c : List UInt8) (hcl : c.length ≤ 100000) (hSemi : c ≠ [59]) (hExit : c ≠ [69, 88, 73, 84]) (hRec : c ≠ [82, 69, 67, 85, 82, 83, 69]) (hText : c ≠ [83, 34]) (hTick : c ≠ [91, 39, 93]) (hChar : c ≠ [91, 67, 72, 65, 82, 93]) (hb : Xc.begins tag c S = none) (he : Xc.ends tag c S = none) (hm : Xc.makes c = none) :
    Calls Tryd.prog 81 #[.pointer (some ⟨gm, 0, none⟩), .string ⟨c.toArray⟩] w (Xc.RPost F w gm tag (Xc.inside2 c S)) := by
  have CB := Lib.hid (xbegins_any h hne (hok.mono (by omega)) hT ht c)
  have CE := Lib.hid (xends_any h hne (hok.mono (by omega)) hT ht c)
  have CM := Lib.hid (fun W => xmakes_any c W)
  rw [hb] at CB
  rw [he] at CE
  rw [hm] at CM
  have eSemi : (c == [59]) = false := by simpa using hSemi
  have eExit : (c == [69, 88, 73, 84]) = false := by simpa using hExit
  have eRec : (c == [82, 69, 67, 85, 82, 83, 69]) = false := by simpa using hRec
  have eText : (c == [83, 34]) = false := by simpa using hText
  have eTick : (c == [91, 39, 93]) = false := by simpa using hTick
  have eChar : (c == [91, 67, 72, 65, 82, 93]) = false := by simpa using hChar
  have CN := Lib.hid (fun W => lnumber_any c W (by unfold maxLen; omega))
  cases hnv : (L6.number c).2
  · by_cases h1 : 1 < c.length
    · by_cases h38 : c.getD 0 0 = 38
      · obtain ⟨z, hz⟩ : ∃ z, Xc.lLa ++ c = z := ⟨_, rfl⟩
        have ez : (⟨#[108, 97, 32, 116, 48, 32]⟩ : ByteArray) ++ ⟨c.toArray⟩ = ⟨z.toArray⟩ := by rw [← hz]; exact app_eq Xc.lLa _
        have hsum : ¬ 9223372036854775807 < 6 + c.length := by omega
        have HZL := Lib.hid (show z.length ≤ 500000 from by rw [← hz, List.length_append]; simp only [Xc.lLa, List.length_cons, List.length_nil]; omega)
        have CP := Lib.hid (xpush_any h hne (hok.mono (by omega)) z HZL.out)
        have HP := Lib.hid (show Xc.inside2 c S = .ok (Xc.push z S) from by unfold Xc.inside2; rw [if_neg (show ¬ c = Xc.tSemi from hSemi), if_neg (show ¬ c = Xc.tExit from hExit), if_neg (show ¬ c = Xc.tRec from hRec), if_neg (show ¬ c = Xc.tText from hText), if_neg (fun h => h.elim hTick hChar)]; unfold Xc.other; rw [if_neg (by rw [hnv]; decide), if_pos ⟨h1, h38⟩, hz])
        have h0 : 0 < c.length := by omega
        have hpos : (1 : Int) < (c.length : Int) := by omega
        have hpos0 : (0 : Int) < (c.length : Int) := by omega
        have e38 : ((((⟨c.toArray⟩ : ByteArray)[0]'h0).toNat : Int) == 38) = true := by rw [L6.get_data c 0 h0, h38]; rfl
        rw [hnv] at CN
        clear h hne hok hT ht hb he hm hz hSemi hExit hRec hText hTick hChar
        clear hnv h38 h1 hcl
        generalize (L6.number c).1 = nv at *
        go_enter Tryd.func81, Tryd.ntmps81
        go_wp2_with (first | (go_at_call 104; refine CB.out.mono ?_; rintro e w' ⟨rfl, rfl⟩) | (go_at_call 105; refine CE.out.mono ?_; rintro e w' ⟨rfl, rfl⟩) | (go_at_call 106; refine (CM.out _).mono ?_; rintro e w' ⟨rfl, rfl⟩) | (go_at_call 110; refine (CN.out _).mono ?_; rintro e w' ⟨rfl, rfl⟩) | (go_at_call 111; refine CP.out.mono ?_; rintro e w2 ⟨rfl, F2, hm2, st2⟩))
        go_ret
        rw [HP.out]
        exact ⟨rfl, F2, hm2, st2⟩
      · have hand : ¬ (1 < c.length ∧ c.getD 0 0 = 38) := fun h => h38 h.2
        have HM := Lib.hid h
        have HNE := Lib.hid hne
        have HOK := Lib.hid hok
        obtain ⟨z, hz⟩ : ∃ z, Xc.lCall ++ Xc.label0 c = z := ⟨_, rfl⟩
        have ez : (⟨#[99, 97, 108, 108, 32]⟩ : ByteArray) ++ ⟨(Xc.label0 c).toArray⟩ = ⟨z.toArray⟩ := by rw [← hz]; exact app_eq Xc.lCall _
        have hll : (Xc.label0 c).length ≤ 100002 := by have := hcl; unfold Xc.label0 Xc.lZero; simp only [List.length_append, List.length_cons, List.length_nil] at *; omega
        have hsum : ¬ 9223372036854775807 < 5 + (Xc.label0 c).length := by omega
        have CLB := Lib.hid (fun W => xlabel0_any c W hcl)
        have HP := Lib.hid (show Xc.inside2 c S = .ok (Xc.put [z] S) from by unfold Xc.inside2; rw [if_neg (show ¬ c = Xc.tSemi from hSemi), if_neg (show ¬ c = Xc.tExit from hExit), if_neg (show ¬ c = Xc.tRec from hRec), if_neg (show ¬ c = Xc.tText from hText), if_neg (fun h => h.elim hTick hChar)]; unfold Xc.other; rw [if_neg (by rw [hnv]; decide), if_neg hand, hz])
        rw [hnv] at CN
        have h0 : 0 < c.length := by omega
        have hpos : (1 : Int) < (c.length : Int) := by omega
        have hpos0 : (0 : Int) < (c.length : Int) := by omega
        have e38 : ((((⟨c.toArray⟩ : ByteArray)[0]'h0).toNat : Int) == 38) = false := by rw [L6.get_data c 0 h0]; have := byte_eq (c.getD 0 0) 38; rw [show ((c.getD 0 0) == 38) = false by simpa using h38] at this; exact this
        clear h38 h1
        clear h hne hok hT ht hb he hm hz hSemi hExit hRec hText hTick hChar
        clear hnv hand hll hcl
        generalize (L6.number c).1 = nv at *
        generalize Xc.label0 c = lb at *
        go_enter Tryd.func81, Tryd.ntmps81
        go_wp2_with (first | (go_at_call 104; refine CB.out.mono ?_; rintro e w' ⟨rfl, rfl⟩) | (go_at_call 105; refine CE.out.mono ?_; rintro e w' ⟨rfl, rfl⟩) | (go_at_call 106; refine (CM.out _).mono ?_; rintro e w' ⟨rfl, rfl⟩) | (go_at_call 110; refine (CN.out _).mono ?_; rintro e w' ⟨rfl, rfl⟩) | (go_at_call 112; refine (CLB.out _).mono ?_; rintro e w2 ⟨rfl, hb2⟩))
        have HM2 := Lib.hid (HM.out.kept hb2)
        have hbe4 : Below w2.heap.size w2 (w2.alloc (.cells #[.string ⟨z.toArray⟩] 9)) := (Below.refl _ _).alloc (Nat.le_refl _) _
        have C4 := Lib.hid (show Calls Tryd.prog 44 #[.pointer (some ⟨gm, 0, none⟩), .slice (some ⟨w2.heap.size, 0, none⟩) 1 1] (w2.alloc (.cells #[.string ⟨z.toArray⟩] 9)) fun e w' => e = .returned (.tuple #[]) ∧ Xc.To F (w2.alloc (.cells #[.string ⟨z.toArray⟩] 9)) gm tag (Xc.put [z] (S)) w' from
          xput_any (HM2.out.kept hbe4) HNE.out (HOK.out.mono (by omega)) (.slice (some ⟨w2.heap.size, 0, none⟩) 1 1) [z] (rd_new [z] (Bk.fresh w2 _ _) (by simp)) (by simp))
        have HBE4 := Lib.hid hbe4
        clear hbe4
        go_wp2_with (go_at_call 44; refine C4.out.mono ?_)
        rintro e w4 ⟨rfl, F4, hm4, st4⟩
        go_wp2_with fail
        go_ret
        rw [HP.out]
        exact ⟨rfl, F4, hm4, (Step.of_below hb2).trans ((Step.of_below HBE4.out).trans st4)⟩
    · have hand : ¬ (1 < c.length ∧ c.getD 0 0 = 38) := fun h => h1 h.1
      have HM := Lib.hid h
      have HNE := Lib.hid hne
      have HOK := Lib.hid hok
      obtain ⟨z, hz⟩ : ∃ z, Xc.lCall ++ Xc.label0 c = z := ⟨_, rfl⟩
      have ez : (⟨#[99, 97, 108, 108, 32]⟩ : ByteArray) ++ ⟨(Xc.label0 c).toArray⟩ = ⟨z.toArray⟩ := by rw [← hz]; exact app_eq Xc.lCall _
      have hll : (Xc.label0 c).length ≤ 100002 := by have := hcl; unfold Xc.label0 Xc.lZero; simp only [List.length_append, List.length_cons, List.length_nil] at *; omega
      have hsum : ¬ 9223372036854775807 < 5 + (Xc.label0 c).length := by omega
      have CLB := Lib.hid (fun W => xlabel0_any c W hcl)
      have HP := Lib.hid (show Xc.inside2 c S = .ok (Xc.put [z] S) from by unfold Xc.inside2; rw [if_neg (show ¬ c = Xc.tSemi from hSemi), if_neg (show ¬ c = Xc.tExit from hExit), if_neg (show ¬ c = Xc.tRec from hRec), if_neg (show ¬ c = Xc.tText from hText), if_neg (fun h => h.elim hTick hChar)]; unfold Xc.other; rw [if_neg (by rw [hnv]; decide), if_neg hand, hz])
      rw [hnv] at CN
      have hpos : ¬ (1 : Int) < (c.length : Int) := by omega
      clear h1
      clear h hne hok hT ht hb he hm hz hSemi hExit hRec hText hTick hChar
      clear hnv hand hll hcl
      generalize (L6.number c).1 = nv at *
      generalize Xc.label0 c = lb at *
      go_enter Tryd.func81, Tryd.ntmps81
      go_wp2_with (first | (go_at_call 104; refine CB.out.mono ?_; rintro e w' ⟨rfl, rfl⟩) | (go_at_call 105; refine CE.out.mono ?_; rintro e w' ⟨rfl, rfl⟩) | (go_at_call 106; refine (CM.out _).mono ?_; rintro e w' ⟨rfl, rfl⟩) | (go_at_call 110; refine (CN.out _).mono ?_; rintro e w' ⟨rfl, rfl⟩) | (go_at_call 112; refine (CLB.out _).mono ?_; rintro e w2 ⟨rfl, hb2⟩))
      have HM2 := Lib.hid (HM.out.kept hb2)
      have hbe4 : Below w2.heap.size w2 (w2.alloc (.cells #[.string ⟨z.toArray⟩] 9)) := (Below.refl _ _).alloc (Nat.le_refl _) _
      have C4 := Lib.hid (show Calls Tryd.prog 44 #[.pointer (some ⟨gm, 0, none⟩), .slice (some ⟨w2.heap.size, 0, none⟩) 1 1] (w2.alloc (.cells #[.string ⟨z.toArray⟩] 9)) fun e w' => e = .returned (.tuple #[]) ∧ Xc.To F (w2.alloc (.cells #[.string ⟨z.toArray⟩] 9)) gm tag (Xc.put [z] (S)) w' from
        xput_any (HM2.out.kept hbe4) HNE.out (HOK.out.mono (by omega)) (.slice (some ⟨w2.heap.size, 0, none⟩) 1 1) [z] (rd_new [z] (Bk.fresh w2 _ _) (by simp)) (by simp))
      have HBE4 := Lib.hid hbe4
      clear hbe4
      go_wp2_with (go_at_call 44; refine C4.out.mono ?_)
      rintro e w4 ⟨rfl, F4, hm4, st4⟩
      go_wp2_with fail
      go_ret
      rw [HP.out]
      exact ⟨rfl, F4, hm4, (Step.of_below hb2).trans ((Step.of_below HBE4.out).trans st4)⟩
  · obtain ⟨z, hz⟩ : ∃ z, Xc.lLi ++ c = z := ⟨_, rfl⟩
    have ez : (⟨#[108, 105, 32, 116, 48, 32]⟩ : ByteArray) ++ ⟨c.toArray⟩ = ⟨z.toArray⟩ := by rw [← hz]; exact app_eq Xc.lLi _
    have hsum : ¬ 9223372036854775807 < 6 + c.length := by omega
    have HZL := Lib.hid (show z.length ≤ 500000 from by rw [← hz, List.length_append]; simp only [Xc.lLi, List.length_cons, List.length_nil]; omega)
    have CP := Lib.hid (xpush_any h hne (hok.mono (by omega)) z HZL.out)
    have HP := Lib.hid (show Xc.inside2 c S = .ok (Xc.push z S) from by unfold Xc.inside2; rw [if_neg (show ¬ c = Xc.tSemi from hSemi), if_neg (show ¬ c = Xc.tExit from hExit), if_neg (show ¬ c = Xc.tRec from hRec), if_neg (show ¬ c = Xc.tText from hText), if_neg (fun h => h.elim hTick hChar)]; unfold Xc.other; rw [if_pos hnv, hz])
    rw [hnv] at CN
    clear h hne hok hT ht hb he hm hz hSemi hExit hRec hText hTick hChar
    clear hnv
    generalize (L6.number c).1 = nv at *
    go_enter Tryd.func81, Tryd.ntmps81
    go_wp2_with (first | (go_at_call 104; refine CB.out.mono ?_; rintro e w' ⟨rfl, rfl⟩) | (go_at_call 105; refine CE.out.mono ?_; rintro e w' ⟨rfl, rfl⟩) | (go_at_call 106; refine (CM.out _).mono ?_; rintro e w' ⟨rfl, rfl⟩) | (go_at_call 110; refine (CN.out _).mono ?_; rintro e w' ⟨rfl, rfl⟩) | (go_at_call 111; refine CP.out.mono ?_; rintro e w2 ⟨rfl, F2, hm2, st2⟩))
    go_ret
    rw [HP.out]
    exact ⟨rfl, F2, hm2, st2⟩
set_option maxRecDepth 100000 in
set_option maxHeartbeats 4000000 in
theorem xinside_any {F : Nat → Prop} {w : World} {gm : Nat} {tag : List UInt8} {S : Xc.S} (h : Xc.Mk F w gm tag S) (hne : S.words ≠ []) (hok : Xc.Ok 0 S) (hT : Xc.Tb F w) (ht : tag.length ≤ 31) (c : List UInt8) (hcl : c.length ≤ 100000) (hns : Xc.inside tag c S ≠ .stuck) :
    Calls Tryd.prog 81 #[.pointer (some ⟨gm, 0, none⟩), .string ⟨c.toArray⟩] w (Xc.RPost F w gm tag (Xc.inside tag c S)) := by
  have CB := Lib.hid (xbegins_any h hne (hok.mono (by omega)) hT ht c)
  cases hb : Xc.begins tag c S with
  | some r =>
    have HP := Lib.hid (show Xc.inside tag c S = r from by unfold Xc.inside; rw [hb])
    rw [hb] at CB
    clear h hne hok hT ht hb hns
    cases r with
    | stuck =>
      go_enter Tryd.func81, Tryd.ntmps81
      go_wp2_with (go_at_call 104; refine CB.out.mono ?_; rintro e w2 hpost; exact absurd hpost id)
    | bad n =>
      go_enter Tryd.func81, Tryd.ntmps81
      go_wp2_with (go_at_call 104; refine CB.out.mono ?_; rintro e w' ⟨rfl, rfl⟩)
      go_ret
      rw [HP.out]
      exact ⟨rfl, F, Step.refl F w⟩
    | ok S1 =>
      go_enter Tryd.func81, Tryd.ntmps81
      go_wp2_with (go_at_call 104; refine CB.out.mono ?_; rintro e w2 ⟨rfl, F2, hm2, st2⟩)
      go_ret
      rw [HP.out]
      exact ⟨rfl, F2, hm2, st2⟩
  | none =>
    have CE := Lib.hid (xends_any h hne (hok.mono (by omega)) hT ht c)
    cases he : Xc.ends tag c S with
    | some o =>
      rw [hb] at CB
      rw [he] at CE
      cases o with
      | none =>
        have HP := Lib.hid (show Xc.inside tag c S = .bad 44 from by unfold Xc.inside; rw [hb, he])
        clear h hne hok hT ht hb he hns
        go_enter Tryd.func81, Tryd.ntmps81
        go_wp2_with (first | (go_at_call 104; refine CB.out.mono ?_; rintro e w' ⟨rfl, rfl⟩) | (go_at_call 105; refine CE.out.mono ?_; rintro e w2 ⟨rfl, hb2⟩))
        go_ret
        rw [HP.out]
        exact ⟨rfl, F, Step.of_below hb2⟩
      | some S1 =>
        have HP := Lib.hid (show Xc.inside tag c S = .ok S1 from by unfold Xc.inside; rw [hb, he])
        clear h hne hok hT ht hb he hns
        go_enter Tryd.func81, Tryd.ntmps81
        go_wp2_with (first | (go_at_call 104; refine CB.out.mono ?_; rintro e w' ⟨rfl, rfl⟩) | (go_at_call 105; refine CE.out.mono ?_; rintro e w2 ⟨rfl, F2, hm2, st2⟩))
        go_ret
        rw [HP.out]
        exact ⟨rfl, F2, hm2, st2⟩
    | none =>
      cases hm : Xc.makes c with
      | some kind =>
        have HP := Lib.hid (show Xc.inside tag c S = .bad 44 from by unfold Xc.inside; rw [hb, he]; dsimp only; rw [hm])
        have CM := Lib.hid (fun W => xmakes_any c W)
        rw [hb] at CB
        rw [he] at CE
        rw [hm] at CM
        clear h hne hok hT ht hb he hm hns
        go_enter Tryd.func81, Tryd.ntmps81
        go_wp2_with (first | (go_at_call 104; refine CB.out.mono ?_; rintro e w' ⟨rfl, rfl⟩) | (go_at_call 105; refine CE.out.mono ?_; rintro e w' ⟨rfl, rfl⟩) | (go_at_call 106; refine (CM.out _).mono ?_; rintro e w' ⟨rfl, rfl⟩))
        go_ret
        rw [HP.out]
        exact ⟨rfl, F, Step.refl F w⟩
      | none =>
        have e : Xc.inside tag c S = Xc.inside2 c S := by unfold Xc.inside; rw [hb, he]; dsimp only; rw [hm]
        rw [e] at hns ⊢
        clear CB CE e
        by_cases hSemi : c = [59]
        · subst hSemi; exact xin_Semi h hne hok hT ht hb he hm
        by_cases hExit : c = [69, 88, 73, 84]
        · subst hExit; exact xin_Exit h hne hok hT ht hb he hm
        by_cases hRec : c = [82, 69, 67, 85, 82, 83, 69]
        · subst hRec; exact xin_Rec h hne hok hT ht hb he hm
        by_cases hText : c = [83, 34]
        · subst hText; exact absurd (by unfold Xc.inside2; rw [if_neg (by decide), if_neg (by decide), if_neg (by decide)]; exact if_pos rfl) hns
        by_cases hTick : c = [91, 39, 93]
        · subst hTick; exact xin_Tick h hne hok hT ht hb he hm
        by_cases hChar : c = [91, 67, 72, 65, 82, 93]
        · subst hChar; exact xin_Char h hne hok hT ht hb he hm
        exact xin_Other h hne hok hT ht c hcl hSemi hExit hRec hText hTick hChar hb he hm
end Go.Proofs.YtfafdkbnmfpbmaaDoor
