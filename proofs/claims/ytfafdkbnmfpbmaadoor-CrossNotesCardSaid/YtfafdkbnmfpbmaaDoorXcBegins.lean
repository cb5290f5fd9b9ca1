/- Layer 12: what opens and what closes. -/
import Derived.Test.YtfafdkbnmfpbmaaDoorXcOps
namespace Go.Proofs.YtfafdkbnmfpbmaaDoor
open Go.RowKit Kit
set_option linter.unusedVariables false
set_option linter.unusedSimpArgs false

/-- What begins yields. -/
def Xc.BeginsPost (F : Nat → Prop) (w : World) (gm : Nat) (tag : List UInt8) (r : Option Xc.R) (e : Ending) (w' : World) : Prop :=
  match r with
  | none => e = .returned (.tuple #[.bool false, .int .i64 0]) ∧ w = w'
  | some (.bad n) => e = .returned (.tuple #[.bool true, .int .i64 (n : Int)]) ∧ w = w'
  | some (.ok S1) => e = .returned (.tuple #[.bool true, .int .i64 0]) ∧ Xc.To F w gm tag S1 w'
  | some .stuck => False
/-- What ends yields. -/
def Xc.EndsPost (F : Nat → Prop) (w : World) (gm : Nat) (tag : List UInt8) (r : Option (Option Xc.S)) (e : Ending) (w' : World) : Prop :=
  match r with
  | none => e = .returned (.tuple #[.bool false, .bool false]) ∧ w = w'
  | some none => e = .returned (.tuple #[.bool true, .bool false]) ∧ Below w.heap.size w w'
  | some (some S1) => e = .returned (.tuple #[.bool true, .bool true]) ∧ Xc.To F w gm tag S1 w'
set_option maxRecDepth 100000 in
set_option maxHeartbeats 2000000 in
theorem xbegins_any {F : Nat → Prop} {w : World} {gm : Nat} {tag : List UInt8} {S : Xc.S} (h : Xc.Mk F w gm tag S) (hne : S.words ≠ []) (hok : Xc.Ok 10 S) (hT : Xc.Tb F w) (ht : tag.length ≤ 31) (c : List UInt8) :
    Calls Tryd.prog 104 #[.pointer (some ⟨gm, 0, none⟩), .string ⟨c.toArray⟩] w (Xc.BeginsPost F w gm tag (Xc.begins tag c S)) := by
  by_cases hBegin : c = [66, 69, 71, 73, 78]
  · subst hBegin
    have HP := Lib.hid (show Xc.begins tag [66, 69, 71, 73, 78] S = some (.ok (Xc.wait [66, 69, 71, 73, 78] (Xc.lab tag S.made) (Xc.here (Xc.lab tag S.made) (Xc.more S)))) from by show Xc.begins tag Xc.tBegin S = _; unfold Xc.begins; rw [if_pos rfl]; rfl)
    have hlk : (Xc.lab tag S.made).length ≤ 1000 := by
      have := Xc.dec_len10 6 S.made (by have := hok.made; omega)
      unfold Xc.lab
      rw [List.length_append]
      omega
    have CL := Lib.hid (xlabel_any h (hok.mono (by omega)) ht hT)
    have HNE := Lib.hid hne
    have HOK := Lib.hid hok
    have HLK := Lib.hid hlk
    clear h hne hok hT ht hlk
    generalize hlab : Xc.lab tag S.made = lb at *
    go_enter Tryd.func104, Tryd.ntmps104
    go_wp2_with (go_at_call 131; refine CL.out.mono ?_; rintro e w1 ⟨rfl, F1, hm1, st1⟩)
    have C2 := Lib.hid (xhere_any hm1 HNE.out (HOK.out.more.mono (by omega)) lb (Nat.le_trans HLK.out (by decide)))
    go_wp2_with (go_at_call 132; refine C2.out.mono ?_; rintro e w2 ⟨rfl, F2, hm2, st2⟩)
    have C3 := Lib.hid (xwait_any hm2 ((HOK.out.more.put _ (by have := HLK.out; rw [Xc.lsum_cons, Xc.lsum_nil, List.length_append, List.length_cons, List.length_nil]; omega)).mono (by omega)) [66, 69, 71, 73, 78] lb)
    go_wp2_with (go_at_call 133; refine C3.out.mono ?_; rintro e w3 ⟨rfl, F3, hm3, st3⟩)
    go_wp2_with fail
    go_ret2
    rw [HP.out]
    exact ⟨rfl, F3, hm3, (st1.trans st2).trans st3⟩
  by_cases hWhile : c = [87, 72, 73, 76, 69]
  · subst hWhile
    cases hS : S.opens with
    | nil =>
      have HP := Lib.hid (show Xc.begins tag [87, 72, 73, 76, 69] S = some (.bad 44) from by show Xc.begins tag Xc.tWhile S = _; unfold Xc.begins; rw [if_neg (by decide), if_pos ⟨rfl, by rw [hS]; intro e; cases e⟩])
      obtain ⟨vw, vo, cs, h1, _, _, _, h5, _⟩ := h.obj
      rw [hS] at h5
      obtain ⟨A, c, rfl⟩ := (Rd.of_own h5).form
      have c5 := h1.cell 5
      simp only [Xc.cells, List.getElem?_toArray, List.getElem?_cons_succ, List.getElem?_cons_zero, List.length_nil] at c5
      clear h hne hok hT ht hS h1 h5
      go_enter Tryd.func104, Tryd.ntmps104
      go_wp2_with fail
      go_ret2
      rw [HP.out]
      exact ⟨rfl, rfl⟩
    | cons p r =>
      obtain ⟨px, pk⟩ := p
      obtain ⟨vw, gw, cap, h1, hnc, hcm, hgw, e0, e1, htop⟩ := h.pop hS
      clear htop e1
      have c5 := h1.cell 5
      simp only [Xc.cells, List.getElem?_toArray, List.getElem?_cons_succ, List.getElem?_cons_zero] at c5
      have ho := hok.opens
      rw [hS, List.length_cons] at ho
      have hw1 : IntKind.i64.wrap (r.length : Int) = (r.length : Int) := by rw [IntKind.wrap_i64]; omega
      have hw2 : IntKind.i64.wrap ((r.length : Int) + 1 - 1) = (r.length : Int) := by rw [IntKind.wrap_i64]; omega
      have hr0 : (0 : Int) ≤ (r.length : Int) := by omega
      have hr1 : (r.length : Int) < ((r.length + 1 : Nat) : Int) := by omega
      have hrz : (((r.length + 1 : Nat) : Int) == 0) = false := by rw [beq_eq_false_iff_ne]; omega
      have hrz' : ((r.length : Int) + 1 == 0) = false := by rw [beq_eq_false_iff_ne]; omega
      by_cases hx : px = [66, 69, 71, 73, 78]
      · have ex : (!px == [66, 69, 71, 73, 78]) = false := by rw [hx]; decide
        have HP := Lib.hid (show Xc.begins tag [87, 72, 73, 76, 69] S = some (.ok (Xc.wait [87, 72, 73, 76, 69] (Xc.lab tag S.made) (Xc.unless (Xc.lab tag S.made) (Xc.more S)))) from by show Xc.begins tag Xc.tWhile S = _; unfold Xc.begins; rw [if_neg (by decide), if_neg (by rw [hS]; rintro ⟨_, h⟩; exact h (congrArg some hx)), if_pos (.inl rfl)]; rfl)
        have hlk : (Xc.lab tag S.made).length ≤ 1000 := by
          have := Xc.dec_len10 6 S.made (by have := hok.made; omega)
          unfold Xc.lab
          rw [List.length_append]
          omega
        have CL := Lib.hid (xlabel_any h (hok.mono (by omega)) ht hT)
        have HNE := Lib.hid hne
        have HOK := Lib.hid hok
        have HLK := Lib.hid hlk
        clear hS h1 ho hx
        clear h hne hok hT ht hlk
        generalize hlab : Xc.lab tag S.made = lb at *
        go_enter Tryd.func104, Tryd.ntmps104
        go_wp2_with (go_at_call 131; refine CL.out.mono ?_; rintro e w1 ⟨rfl, F1, hm1, st1⟩)
        have C2 := Lib.hid (xunless_any hm1 HNE.out (HOK.out.more.mono (by omega)) lb (Nat.le_trans HLK.out (by decide)))
        go_wp2_with (go_at_call 134; refine C2.out.mono ?_; rintro e w2 ⟨rfl, F2, hm2, st2⟩)
        have C3 := Lib.hid (xwait_any hm2 ((HOK.out.more.put _ (by have := HLK.out; simp only [Xc.lsum_cons, Xc.lsum_nil, List.length_append, Xc.lLw, Xc.lPop, Xc.lBnez, Xc.lJ, List.length_cons, List.length_nil]; omega)).mono (by omega)) [87, 72, 73, 76, 69] lb)
        go_wp2_with (go_at_call 133; refine C3.out.mono ?_; rintro e w3 ⟨rfl, F3, hm3, st3⟩)
        go_wp2_with fail
        go_ret2
        rw [HP.out]
        exact ⟨rfl, F3, hm3, (st1.trans st2).trans st3⟩
      · have HP := Lib.hid (show Xc.begins tag [87, 72, 73, 76, 69] S = some (.bad 44) from by show Xc.begins tag Xc.tWhile S = _; unfold Xc.begins; rw [if_neg (by decide), if_pos ⟨rfl, by rw [hS]; intro e; injection e with e; exact hx e⟩])
        have ex : (!px == [66, 69, 71, 73, 78]) = true := by simpa using hx
        clear h hne hok hT ht hS h1 ho hx
        go_enter Tryd.func104, Tryd.ntmps104
        go_wp2_with fail
        go_ret2
        rw [HP.out]
        exact ⟨rfl, rfl⟩
  by_cases hIf : c = [73, 70]
  · subst hIf
    have HP := Lib.hid (show Xc.begins tag [73, 70] S = some (.ok (Xc.wait [73, 70] (Xc.lab tag S.made) (Xc.unless (Xc.lab tag S.made) (Xc.more S)))) from by show Xc.begins tag Xc.tIf S = _; unfold Xc.begins; rw [if_neg (by decide), if_neg (by rintro ⟨h, _⟩; exact absurd h (by decide)), if_pos (.inr rfl)]; rfl)
    have hlk : (Xc.lab tag S.made).length ≤ 1000 := by
      have := Xc.dec_len10 6 S.made (by have := hok.made; omega)
      unfold Xc.lab
      rw [List.length_append]
      omega
    have CL := Lib.hid (xlabel_any h (hok.mono (by omega)) ht hT)
    have HNE := Lib.hid hne
    have HOK := Lib.hid hok
    have HLK := Lib.hid hlk
    clear h hne hok hT ht hlk
    generalize hlab : Xc.lab tag S.made = lb at *
    go_enter Tryd.func104, Tryd.ntmps104
    go_wp2_with (go_at_call 131; refine CL.out.mono ?_; rintro e w1 ⟨rfl, F1, hm1, st1⟩)
    have C2 := Lib.hid (xunless_any hm1 HNE.out (HOK.out.more.mono (by omega)) lb (Nat.le_trans HLK.out (by decide)))
    go_wp2_with (go_at_call 134; refine C2.out.mono ?_; rintro e w2 ⟨rfl, F2, hm2, st2⟩)
    have C3 := Lib.hid (xwait_any hm2 ((HOK.out.more.put _ (by have := HLK.out; simp only [Xc.lsum_cons, Xc.lsum_nil, List.length_append, Xc.lLw, Xc.lPop, Xc.lBnez, Xc.lJ, List.length_cons, List.length_nil]; omega)).mono (by omega)) [73, 70] lb)
    go_wp2_with (go_at_call 133; refine C3.out.mono ?_; rintro e w3 ⟨rfl, F3, hm3, st3⟩)
    go_wp2_with fail
    go_ret2
    rw [HP.out]
    exact ⟨rfl, F3, hm3, (st1.trans st2).trans st3⟩
  have HP := Lib.hid (show Xc.begins tag c S = none from by unfold Xc.begins; rw [if_neg (show ¬ c = Xc.tBegin from hBegin), if_neg (fun h => hWhile h.1), if_neg (fun h => h.elim hWhile hIf)])
  have eBegin : (c == [66, 69, 71, 73, 78]) = false := by simpa using hBegin
  have eWhile : (c == [87, 72, 73, 76, 69]) = false := by simpa using hWhile
  have eIf : (c == [73, 70]) = false := by simpa using hIf
  clear h hne hok hT ht hBegin hWhile hIf
  go_enter Tryd.func104, Tryd.ntmps104
  go_wp2_with fail
  go_ret2
  rw [HP.out]
  exact ⟨rfl, rfl⟩
set_option maxRecDepth 100000 in
set_option maxHeartbeats 2000000 in
theorem xends_Else {F : Nat → Prop} {w : World} {gm : Nat} {tag : List UInt8} {S : Xc.S} (h : Xc.Mk F w gm tag S) (hne : S.words ≠ []) (hok : Xc.Ok 10 S) (hT : Xc.Tb F w) (ht : tag.length ≤ 31) :
    Calls Tryd.prog 105 #[.pointer (some ⟨gm, 0, none⟩), .string ⟨#[69, 76, 83, 69]⟩] w (Xc.EndsPost F w gm tag (Xc.ends tag [69, 76, 83, 69] S)) := by
  have hbe : Below w.heap.size w (w.alloc (.cells #[.string ⟨#[73, 70]⟩] 9)) := (Below.refl _ _).alloc (Nat.le_refl _) _
  have CC := Lib.hid (show Calls Tryd.prog 135 #[.pointer (some ⟨gm, 0, none⟩), .slice (some ⟨w.heap.size, 0, none⟩) 1 1] (w.alloc (.cells #[.string ⟨#[73, 70]⟩] 9)) (Xc.ClosePost F (w.alloc (.cells #[.string ⟨#[73, 70]⟩] 9)) gm tag S (Xc.close [Xc.tIf] S)) from
    xclose_any (h.kept hbe) (hok.mono (by omega)) (.slice (some ⟨w.heap.size, 0, none⟩) 1 1) [Xc.tIf] (rd_new [Xc.tIf] (Bk.fresh w _ _) (by simp)) (by simp))
  have HBE := Lib.hid hbe
  have HT1 := Lib.hid (hT.kept hbe)
  have HNE := Lib.hid hne
  cases hc : Xc.close [Xc.tIf] S with
  | none =>
    have HP := Lib.hid (show Xc.ends tag [69, 76, 83, 69] S = some none from by show Xc.ends tag Xc.tElse S = _; unfold Xc.ends; rw [if_pos rfl, hc] <;> rfl)
    rw [hc] at CC
    clear h hne hok hT ht hc hbe
    go_enter Tryd.func105, Tryd.ntmps105
    go_wp2_with (go_at_call 135; refine CC.out.mono ?_)
    rintro e w2 ⟨rfl, rfl⟩
    go_wp2_with fail
    go_ret2
    rw [HP.out]
    exact ⟨rfl, HBE.out⟩
  | some p =>
    obtain ⟨k, S1⟩ := p
    obtain ⟨hok1, hkl⟩ := hok.close hc
    have HNE1 := Lib.hid (show S1.words ≠ [] from by obtain ⟨_, r, _, _, e⟩ := Xc.close_some hc; rw [e]; exact hne)
    have HOK1 := Lib.hid hok1
    have HKL := Lib.hid hkl
    have HP := Lib.hid (show Xc.ends tag [69, 76, 83, 69] S = some (some (Xc.wait [69, 76, 83, 69] (Xc.lab tag S1.made) (Xc.put [Xc.lJ ++ Xc.lab tag S1.made, k ++ [58]] (Xc.more S1)))) from by show Xc.ends tag Xc.tElse S = _; unfold Xc.ends; rw [if_pos rfl, hc] <;> rfl)
    have hlk : (Xc.lab tag S1.made).length ≤ 1000 := by
      have := Xc.dec_len10 6 S1.made (by have := hok1.made; omega)
      unfold Xc.lab
      rw [List.length_append]
      omega
    have HLK := Lib.hid hlk
    have HTL := Lib.hid ht
    rw [hc] at CC
    clear h hne hok hok1 hkl hT hc hbe hlk ht
    go_enter Tryd.func105, Tryd.ntmps105
    go_wp2_with (go_at_call 135; refine CC.out.mono ?_)
    rintro e w2 ⟨rfl, F2, hm2, st2⟩
    have HT2 := Lib.hid (HT1.out.step st2)
    have CL := Lib.hid (xlabel_any hm2 (HOK1.out.mono (by omega)) HTL.out HT2.out)
    generalize hlab : Xc.lab tag S1.made = lb at *
    go_wp2_with (go_at_call 131; refine CL.out.mono ?_)
    rintro e w3 ⟨rfl, F3, hm3, st3⟩
    obtain ⟨z1, hz1⟩ : ∃ z, [106, 32] ++ lb = z := ⟨_, rfl⟩
    have ez1 : (⟨#[106, 32]⟩ : ByteArray) ++ ⟨lb.toArray⟩ = ⟨z1.toArray⟩ := by rw [← hz1]; exact app_eq [106, 32] lb
    have hsum1 : ¬ 9223372036854775807 < 2 + lb.length := by have := HLK.out; omega
    have HZL1 := Lib.hid (show z1.length ≤ 2000 from by rw [← hz1, List.length_append]; have := HLK.out; simp only [List.length_cons, List.length_nil]; omega)
    obtain ⟨z2, hz2⟩ : ∃ z, k ++ [58] = z := ⟨_, rfl⟩
    have ez2 : (⟨k.toArray⟩ : ByteArray) ++ ⟨#[58]⟩ = ⟨z2.toArray⟩ := by rw [← hz2]; exact app_eq k [58]
    have hsum2 : ¬ 9223372036854775807 < k.length + 1 := by have := HKL.out; omega
    have HZL2 := Lib.hid (show z2.length ≤ 2000 from by rw [← hz2, List.length_append]; have := HKL.out; simp only [List.length_cons, List.length_nil]; omega)
    have HPZ := Lib.hid (show Xc.put [Xc.lJ ++ lb, k ++ [58]] (Xc.more S1) = Xc.put [z1, z2] (Xc.more S1) from by rw [← hz1, ← hz2]; rfl)
    clear hz1 hz2 hlab
    have hbe4 : Below w3.heap.size w3 (w3.alloc (.cells #[.string ⟨z1.toArray⟩, .string ⟨z2.toArray⟩] 9)) := (Below.refl _ _).alloc (Nat.le_refl _) _
    have C4 := Lib.hid (show Calls Tryd.prog 44 #[.pointer (some ⟨gm, 0, none⟩), .slice (some ⟨w3.heap.size, 0, none⟩) 2 2] (w3.alloc (.cells #[.string ⟨z1.toArray⟩, .string ⟨z2.toArray⟩] 9)) fun e w' => e = .returned (.tuple #[]) ∧ Xc.To F3 (w3.alloc (.cells #[.string ⟨z1.toArray⟩, .string ⟨z2.toArray⟩] 9)) gm tag (Xc.put [z1, z2] (Xc.more S1)) w' from
      xput_any (hm3.kept hbe4) HNE1.out (HOK1.out.more.mono (by omega)) (.slice (some ⟨w3.heap.size, 0, none⟩) 2 2) [z1, z2] (rd_new [z1, z2] (Bk.fresh w3 _ _) (by simp)) (by simp))
    have HBE4 := Lib.hid hbe4
    clear hbe4
    go_wp2_with (go_at_call 44; refine C4.out.mono ?_)
    rintro e w4 ⟨rfl, F4, hm4, st4⟩
    have C5 := Lib.hid (xwait_any hm4 ((HOK1.out.more.put _ (by have := HZL1.out; have := HZL2.out; rw [Xc.lsum_cons, Xc.lsum_cons, Xc.lsum_nil]; omega)).mono (by omega)) [69, 76, 83, 69] lb)
    go_wp2_with (go_at_call 133; refine C5.out.mono ?_)
    rintro e w5 ⟨rfl, F5, hm5, st5⟩
    go_wp2_with fail
    go_ret2
    rw [HP.out, HPZ.out]
    exact ⟨rfl, F5, hm5, (((Step.of_below HBE.out).trans st2).trans st3).trans (((Step.of_below HBE4.out).trans st4).trans st5)⟩
set_option maxRecDepth 100000 in
set_option maxHeartbeats 2000000 in
theorem xends_Then {F : Nat → Prop} {w : World} {gm : Nat} {tag : List UInt8} {S : Xc.S} (h : Xc.Mk F w gm tag S) (hne : S.words ≠ []) (hok : Xc.Ok 10 S) (hT : Xc.Tb F w) (ht : tag.length ≤ 31) :
    Calls Tryd.prog 105 #[.pointer (some ⟨gm, 0, none⟩), .string ⟨#[84, 72, 69, 78]⟩] w (Xc.EndsPost F w gm tag (Xc.ends tag [84, 72, 69, 78] S)) := by
  have hbe : Below w.heap.size w (w.alloc (.cells #[.string ⟨#[73, 70]⟩, .string ⟨#[69, 76, 83, 69]⟩] 9)) := (Below.refl _ _).alloc (Nat.le_refl _) _
  have CC := Lib.hid (show Calls Tryd.prog 135 #[.pointer (some ⟨gm, 0, none⟩), .slice (some ⟨w.heap.size, 0, none⟩) 2 2] (w.alloc (.cells #[.string ⟨#[73, 70]⟩, .string ⟨#[69, 76, 83, 69]⟩] 9)) (Xc.ClosePost F (w.alloc (.cells #[.string ⟨#[73, 70]⟩, .string ⟨#[69, 76, 83, 69]⟩] 9)) gm tag S (Xc.close [Xc.tIf, Xc.tElse] S)) from
    xclose_any (h.kept hbe) (hok.mono (by omega)) (.slice (some ⟨w.heap.size, 0, none⟩) 2 2) [Xc.tIf, Xc.tElse] (rd_new [Xc.tIf, Xc.tElse] (Bk.fresh w _ _) (by simp)) (by simp))
  have HBE := Lib.hid hbe
  have HT1 := Lib.hid (hT.kept hbe)
  have HNE := Lib.hid hne
  cases hc : Xc.close [Xc.tIf, Xc.tElse] S with
  | none =>
    have HP := Lib.hid (show Xc.ends tag [84, 72, 69, 78] S = some none from by show Xc.ends tag Xc.tThen S = _; unfold Xc.ends; rw [if_neg (by decide), if_pos rfl, hc] <;> rfl)
    rw [hc] at CC
    clear h hne hok hT ht hc hbe
    go_enter Tryd.func105, Tryd.ntmps105
    go_wp2_with (go_at_call 135; refine CC.out.mono ?_)
    rintro e w2 ⟨rfl, rfl⟩
    go_wp2_with fail
    go_ret2
    rw [HP.out]
    exact ⟨rfl, HBE.out⟩
  | some p =>
    obtain ⟨k, S1⟩ := p
    obtain ⟨hok1, hkl⟩ := hok.close hc
    have HNE1 := Lib.hid (show S1.words ≠ [] from by obtain ⟨_, r, _, _, e⟩ := Xc.close_some hc; rw [e]; exact hne)
    have HOK1 := Lib.hid hok1
    have HKL := Lib.hid hkl
    have HP := Lib.hid (show Xc.ends tag [84, 72, 69, 78] S = some (some (Xc.here k S1)) from by show Xc.ends tag Xc.tThen S = _; unfold Xc.ends; rw [if_neg (by decide), if_pos rfl, hc] <;> rfl)
    rw [hc] at CC
    clear h hne hok hok1 hkl hT hc hbe ht
    go_enter Tryd.func105, Tryd.ntmps105
    go_wp2_with (go_at_call 135; refine CC.out.mono ?_)
    rintro e w2 ⟨rfl, F2, hm2, st2⟩
    have HT2 := Lib.hid (HT1.out.step st2)
    have C3 := Lib.hid (xhere_any hm2 HNE1.out (HOK1.out.mono (by omega)) k (Nat.le_trans HKL.out (by decide)))
    go_wp2_with (go_at_call 132; refine C3.out.mono ?_)
    rintro e w3 ⟨rfl, F3, hm3, st3⟩
    go_wp2_with fail
    go_ret2
    rw [HP.out]
    exact ⟨rfl, F3, hm3, (Step.of_below HBE.out).trans (st2.trans st3)⟩
set_option maxRecDepth 100000 in
set_option maxHeartbeats 2000000 in
theorem xends_Again {F : Nat → Prop} {w : World} {gm : Nat} {tag : List UInt8} {S : Xc.S} (h : Xc.Mk F w gm tag S) (hne : S.words ≠ []) (hok : Xc.Ok 10 S) (hT : Xc.Tb F w) (ht : tag.length ≤ 31) :
    Calls Tryd.prog 105 #[.pointer (some ⟨gm, 0, none⟩), .string ⟨#[65, 71, 65, 73, 78]⟩] w (Xc.EndsPost F w gm tag (Xc.ends tag [65, 71, 65, 73, 78] S)) := by
  have hbe : Below w.heap.size w (w.alloc (.cells #[.string ⟨#[66, 69, 71, 73, 78]⟩] 9)) := (Below.refl _ _).alloc (Nat.le_refl _) _
  have CC := Lib.hid (show Calls Tryd.prog 135 #[.pointer (some ⟨gm, 0, none⟩), .slice (some ⟨w.heap.size, 0, none⟩) 1 1] (w.alloc (.cells #[.string ⟨#[66, 69, 71, 73, 78]⟩] 9)) (Xc.ClosePost F (w.alloc (.cells #[.string ⟨#[66, 69, 71, 73, 78]⟩] 9)) gm tag S (Xc.close [Xc.tBegin] S)) from
    xclose_any (h.kept hbe) (hok.mono (by omega)) (.slice (some ⟨w.heap.size, 0, none⟩) 1 1) [Xc.tBegin] (rd_new [Xc.tBegin] (Bk.fresh w _ _) (by simp)) (by simp))
  have HBE := Lib.hid hbe
  have HT1 := Lib.hid (hT.kept hbe)
  have HNE := Lib.hid hne
  cases hc : Xc.close [Xc.tBegin] S with
  | none =>
    have HP := Lib.hid (show Xc.ends tag [65, 71, 65, 73, 78] S = some none from by show Xc.ends tag Xc.tAgain S = _; unfold Xc.ends; rw [if_neg (by decide), if_neg (by decide), if_pos rfl, hc] <;> rfl)
    rw [hc] at CC
    clear h hne hok hT ht hc hbe
    go_enter Tryd.func105, Tryd.ntmps105
    go_wp2_with (go_at_call 135; refine CC.out.mono ?_)
    rintro e w2 ⟨rfl, rfl⟩
    go_wp2_with fail
    go_ret2
    rw [HP.out]
    exact ⟨rfl, HBE.out⟩
  | some p =>
    obtain ⟨k, S1⟩ := p
    obtain ⟨hok1, hkl⟩ := hok.close hc
    have HNE1 := Lib.hid (show S1.words ≠ [] from by obtain ⟨_, r, _, _, e⟩ := Xc.close_some hc; rw [e]; exact hne)
    have HOK1 := Lib.hid hok1
    have HKL := Lib.hid hkl
    have HP := Lib.hid (show Xc.ends tag [65, 71, 65, 73, 78] S = some (some (Xc.put [Xc.lJ ++ k] S1)) from by show Xc.ends tag Xc.tAgain S = _; unfold Xc.ends; rw [if_neg (by decide), if_neg (by decide), if_pos rfl, hc] <;> rfl)
    rw [hc] at CC
    clear h hne hok hok1 hkl hT hc hbe ht
    go_enter Tryd.func105, Tryd.ntmps105
    go_wp2_with (go_at_call 135; refine CC.out.mono ?_)
    rintro e w2 ⟨rfl, F2, hm2, st2⟩
    have HT2 := Lib.hid (HT1.out.step st2)
    obtain ⟨z1, hz1⟩ : ∃ z, [106, 32] ++ k = z := ⟨_, rfl⟩
    have ez1 : (⟨#[106, 32]⟩ : ByteArray) ++ ⟨k.toArray⟩ = ⟨z1.toArray⟩ := by rw [← hz1]; exact app_eq [106, 32] k
    have hsum1 : ¬ 9223372036854775807 < 2 + k.length := by have := HKL.out; omega
    have HZL1 := Lib.hid (show z1.length ≤ 2000 from by rw [← hz1, List.length_append]; have := HKL.out; simp only [List.length_cons, List.length_nil]; omega)
    have HPZ := Lib.hid (show Xc.put [Xc.lJ ++ k] S1 = Xc.put [z1] S1 from by rw [← hz1]; rfl)
    clear hz1
    have hbe3 : Below w2.heap.size w2 (w2.alloc (.cells #[.string ⟨z1.toArray⟩] 9)) := (Below.refl _ _).alloc (Nat.le_refl _) _
    have C3 := Lib.hid (show Calls Tryd.prog 44 #[.pointer (some ⟨gm, 0, none⟩), .slice (some ⟨w2.heap.size, 0, none⟩) 1 1] (w2.alloc (.cells #[.string ⟨z1.toArray⟩] 9)) fun e w' => e = .returned (.tuple #[]) ∧ Xc.To F2 (w2.alloc (.cells #[.string ⟨z1.toArray⟩] 9)) gm tag (Xc.put [z1] (S1)) w' from
      xput_any (hm2.kept hbe3) HNE1.out (HOK1.out.mono (by omega)) (.slice (some ⟨w2.heap.size, 0, none⟩) 1 1) [z1] (rd_new [z1] (Bk.fresh w2 _ _) (by simp)) (by simp))
    have HBE3 := Lib.hid hbe3
    clear hbe3
    go_wp2_with (go_at_call 44; refine C3.out.mono ?_)
    rintro e w3 ⟨rfl, F3, hm3, st3⟩
    go_wp2_with fail
    go_ret2
    rw [HP.out, HPZ.out]
    exact ⟨rfl, F3, hm3, ((Step.of_below HBE.out).trans st2).trans ((Step.of_below HBE3.out).trans st3)⟩
set_option maxRecDepth 100000 in
set_option maxHeartbeats 2000000 in
theorem xends_Until {F : Nat → Prop} {w : World} {gm : Nat} {tag : List UInt8} {S : Xc.S} (h : Xc.Mk F w gm tag S) (hne : S.words ≠ []) (hok : Xc.Ok 10 S) (hT : Xc.Tb F w) (ht : tag.length ≤ 31) :
    Calls Tryd.prog 105 #[.pointer (some ⟨gm, 0, none⟩), .string ⟨#[85, 78, 84, 73, 76]⟩] w (Xc.EndsPost F w gm tag (Xc.ends tag [85, 78, 84, 73, 76] S)) := by
  have hbe : Below w.heap.size w (w.alloc (.cells #[.string ⟨#[66, 69, 71, 73, 78]⟩] 9)) := (Below.refl _ _).alloc (Nat.le_refl _) _
  have CC := Lib.hid (show Calls Tryd.prog 135 #[.pointer (some ⟨gm, 0, none⟩), .slice (some ⟨w.heap.size, 0, none⟩) 1 1] (w.alloc (.cells #[.string ⟨#[66, 69, 71, 73, 78]⟩] 9)) (Xc.ClosePost F (w.alloc (.cells #[.string ⟨#[66, 69, 71, 73, 78]⟩] 9)) gm tag S (Xc.close [Xc.tBegin] S)) from
    xclose_any (h.kept hbe) (hok.mono (by omega)) (.slice (some ⟨w.heap.size, 0, none⟩) 1 1) [Xc.tBegin] (rd_new [Xc.tBegin] (Bk.fresh w _ _) (by simp)) (by simp))
  have HBE := Lib.hid hbe
  have HT1 := Lib.hid (hT.kept hbe)
  have HNE := Lib.hid hne
  cases hc : Xc.close [Xc.tBegin] S with
  | none =>
    have HP := Lib.hid (show Xc.ends tag [85, 78, 84, 73, 76] S = some none from by show Xc.ends tag Xc.tUntil S = _; unfold Xc.ends; rw [if_neg (by decide), if_neg (by decide), if_neg (by decide), if_pos rfl, hc] <;> rfl)
    rw [hc] at CC
    clear h hne hok hT ht hc hbe
    go_enter Tryd.func105, Tryd.ntmps105
    go_wp2_with (go_at_call 135; refine CC.out.mono ?_)
    rintro e w2 ⟨rfl, rfl⟩
    go_wp2_with fail
    go_ret2
    rw [HP.out]
    exact ⟨rfl, HBE.out⟩
  | some p =>
    obtain ⟨k, S1⟩ := p
    obtain ⟨hok1, hkl⟩ := hok.close hc
    have HNE1 := Lib.hid (show S1.words ≠ [] from by obtain ⟨_, r, _, _, e⟩ := Xc.close_some hc; rw [e]; exact hne)
    have HOK1 := Lib.hid hok1
    have HKL := Lib.hid hkl
    have HP := Lib.hid (show Xc.ends tag [85, 78, 84, 73, 76] S = some (some (Xc.unless k S1)) from by show Xc.ends tag Xc.tUntil S = _; unfold Xc.ends; rw [if_neg (by decide), if_neg (by decide), if_neg (by decide), if_pos rfl, hc] <;> rfl)
    rw [hc] at CC
    clear h hne hok hok1 hkl hT hc hbe ht
    go_enter Tryd.func105, Tryd.ntmps105
    go_wp2_with (go_at_call 135; refine CC.out.mono ?_)
    rintro e w2 ⟨rfl, F2, hm2, st2⟩
    have HT2 := Lib.hid (HT1.out.step st2)
    have C3 := Lib.hid (xunless_any hm2 HNE1.out (HOK1.out.mono (by omega)) k (Nat.le_trans HKL.out (by decide)))
    go_wp2_with (go_at_call 134; refine C3.out.mono ?_)
    rintro e w3 ⟨rfl, F3, hm3, st3⟩
    go_wp2_with fail
    go_ret2
    rw [HP.out]
    exact ⟨rfl, F3, hm3, (Step.of_below HBE.out).trans (st2.trans st3)⟩
set_option maxRecDepth 100000 in
set_option maxHeartbeats 2000000 in
theorem xends_Repeat {F : Nat → Prop} {w : World} {gm : Nat} {tag : List UInt8} {S : Xc.S} (h : Xc.Mk F w gm tag S) (hne : S.words ≠ []) (hok : Xc.Ok 10 S) (hT : Xc.Tb F w) (ht : tag.length ≤ 31) :
    Calls Tryd.prog 105 #[.pointer (some ⟨gm, 0, none⟩), .string ⟨#[82, 69, 80, 69, 65, 84]⟩] w (Xc.EndsPost F w gm tag (Xc.ends tag [82, 69, 80, 69, 65, 84] S)) := by
  have hbe : Below w.heap.size w (w.alloc (.cells #[.string ⟨#[87, 72, 73, 76, 69]⟩] 9)) := (Below.refl _ _).alloc (Nat.le_refl _) _
  have CC := Lib.hid (show Calls Tryd.prog 135 #[.pointer (some ⟨gm, 0, none⟩), .slice (some ⟨w.heap.size, 0, none⟩) 1 1] (w.alloc (.cells #[.string ⟨#[87, 72, 73, 76, 69]⟩] 9)) (Xc.ClosePost F (w.alloc (.cells #[.string ⟨#[87, 72, 73, 76, 69]⟩] 9)) gm tag S (Xc.close [Xc.tWhile] S)) from
    xclose_any (h.kept hbe) (hok.mono (by omega)) (.slice (some ⟨w.heap.size, 0, none⟩) 1 1) [Xc.tWhile] (rd_new [Xc.tWhile] (Bk.fresh w _ _) (by simp)) (by simp))
  have HBE := Lib.hid hbe
  have HT1 := Lib.hid (hT.kept hbe)
  have HNE := Lib.hid hne
  cases hc : Xc.close [Xc.tWhile] S with
  | none =>
    have HP := Lib.hid (show Xc.ends tag [82, 69, 80, 69, 65, 84] S = some none from by show Xc.ends tag Xc.tRepeat S = _; unfold Xc.ends; rw [if_neg (by decide), if_neg (by decide), if_neg (by decide), if_neg (by decide), if_pos rfl, hc] <;> rfl)
    rw [hc] at CC
    clear h hne hok hT ht hc hbe
    go_enter Tryd.func105, Tryd.ntmps105
    go_wp2_with (go_at_call 135; refine CC.out.mono ?_)
    rintro e w2 ⟨rfl, rfl⟩
    go_wp2_with fail
    go_ret2
    rw [HP.out]
    exact ⟨rfl, HBE.out⟩
  | some p =>
    obtain ⟨k, S1⟩ := p
    obtain ⟨hok1, hkl⟩ := hok.close hc
    have HNE1 := Lib.hid (show S1.words ≠ [] from by obtain ⟨_, r, _, _, e⟩ := Xc.close_some hc; rw [e]; exact hne)
    have HOK1 := Lib.hid hok1
    have HKL := Lib.hid hkl
    have HP := Lib.hid (show Xc.ends tag [82, 69, 80, 69, 65, 84] S = some (some (Xc.put [Xc.lJ ++ (Xc.back S1).1, k ++ [58]] (Xc.back S1).2)) from by show Xc.ends tag Xc.tRepeat S = _; unfold Xc.ends; rw [if_neg (by decide), if_neg (by decide), if_neg (by decide), if_neg (by decide), if_pos rfl, hc] <;> rfl)
    rw [hc] at CC
    clear h hne hok hok1 hkl hT hc hbe ht
    go_enter Tryd.func105, Tryd.ntmps105
    go_wp2_with (go_at_call 135; refine CC.out.mono ?_)
    rintro e w2 ⟨rfl, F2, hm2, st2⟩
    have HT2 := Lib.hid (HT1.out.step st2)
    have hbe3 : Below w2.heap.size w2 (w2.alloc (.cells #[.string ⟨#[66, 69, 71, 73, 78]⟩] 9)) := (Below.refl _ _).alloc (Nat.le_refl _) _
    have C3 := Lib.hid (show Calls Tryd.prog 135 #[.pointer (some ⟨gm, 0, none⟩), .slice (some ⟨w2.heap.size, 0, none⟩) 1 1] (w2.alloc (.cells #[.string ⟨#[66, 69, 71, 73, 78]⟩] 9)) (Xc.ClosePost F2 (w2.alloc (.cells #[.string ⟨#[66, 69, 71, 73, 78]⟩] 9)) gm tag S1 (Xc.close [Xc.tBegin] S1)) from
      xclose_any (hm2.kept hbe3) (HOK1.out.mono (by omega)) (.slice (some ⟨w2.heap.size, 0, none⟩) 1 1) [Xc.tBegin] (rd_new [Xc.tBegin] (Bk.fresh w2 _ _) (by simp)) (by simp))
    have HBE3 := Lib.hid hbe3
    have HM23 := Lib.hid (hm2.kept hbe3)
    clear hbe3
    cases hc2 : Xc.close [Xc.tBegin] S1 with
    | none =>
      have HBA := Lib.hid (show Xc.back S1 = ([], S1) from by unfold Xc.back; rw [hc2])
      rw [hc2] at C3
      clear hc2
      go_wp2_with (go_at_call 135; refine C3.out.mono ?_)
      rintro e w4 ⟨rfl, hw4⟩
      have HM4 := Lib.hid (show Xc.Mk F2 w4 gm tag S1 from hw4 ▸ HM23.out)
      have HB4 := Lib.hid (show Below w2.heap.size w2 w4 from hw4 ▸ HBE3.out)
      clear hw4
      obtain ⟨z2, hz2⟩ : ∃ z, k ++ [58] = z := ⟨_, rfl⟩
      have ez2 : (⟨k.toArray⟩ : ByteArray) ++ ⟨#[58]⟩ = ⟨z2.toArray⟩ := by rw [← hz2]; exact app_eq k [58]
      have hsum2 : ¬ 9223372036854775807 < k.length + 1 := by have := HKL.out; omega
      have HZL2 := Lib.hid (show z2.length ≤ 2000 from by rw [← hz2, List.length_append]; have := HKL.out; simp only [List.length_cons, List.length_nil]; omega)
      have HPZ := Lib.hid (show Xc.put [Xc.lJ ++ [], k ++ [58]] S1 = Xc.put [Xc.lJ, z2] S1 from by rw [← hz2]; rfl)
      clear hz2
      have hbe5 : Below w4.heap.size w4 (w4.alloc (.cells #[.string ⟨#[106, 32]⟩, .string ⟨z2.toArray⟩] 9)) := (Below.refl _ _).alloc (Nat.le_refl _) _
      have C5 := Lib.hid (show Calls Tryd.prog 44 #[.pointer (some ⟨gm, 0, none⟩), .slice (some ⟨w4.heap.size, 0, none⟩) 2 2] (w4.alloc (.cells #[.string ⟨#[106, 32]⟩, .string ⟨z2.toArray⟩] 9)) fun e w' => e = .returned (.tuple #[]) ∧ Xc.To F2 (w4.alloc (.cells #[.string ⟨#[106, 32]⟩, .string ⟨z2.toArray⟩] 9)) gm tag (Xc.put [Xc.lJ, z2] (S1)) w' from
        xput_any (HM4.out.kept hbe5) HNE1.out (HOK1.out.mono (by omega)) (.slice (some ⟨w4.heap.size, 0, none⟩) 2 2) [Xc.lJ, z2] (rd_new [Xc.lJ, z2] (Bk.fresh w4 _ _) (by simp)) (by simp))
      have HBE5 := Lib.hid hbe5
      clear hbe5
      go_wp2_with (go_at_call 44; refine C5.out.mono ?_)
      rintro e w5 ⟨rfl, F5, hm5, st5⟩
      go_wp2_with fail
      go_ret2
      rw [HP.out, HBA.out]
      dsimp only
      rw [HPZ.out]
      exact ⟨rfl, F5, hm5, (((Step.of_below HBE.out).trans st2).trans (Step.of_below HB4.out)).trans ((Step.of_below HBE5.out).trans st5)⟩
    | some q =>
      obtain ⟨bk, S2⟩ := q
      obtain ⟨hok2, hbl⟩ := HOK1.out.close hc2
      have HNE2 := Lib.hid (show S2.words ≠ [] from by obtain ⟨_, r, _, _, e⟩ := Xc.close_some hc2; rw [e]; exact HNE1.out)
      have HOK2 := Lib.hid hok2
      have HBK := Lib.hid hbl
      have HBA := Lib.hid (show Xc.back S1 = (bk, S2) from by unfold Xc.back; rw [hc2])
      rw [hc2] at C3
      clear hc2 hok2 hbl
      go_wp2_with (go_at_call 135; refine C3.out.mono ?_)
      rintro e w4 ⟨rfl, F4, hm4, st4⟩
      obtain ⟨z1, hz1⟩ : ∃ z, [106, 32] ++ bk = z := ⟨_, rfl⟩
      have ez1 : (⟨#[106, 32]⟩ : ByteArray) ++ ⟨bk.toArray⟩ = ⟨z1.toArray⟩ := by rw [← hz1]; exact app_eq [106, 32] bk
      have hsum1 : ¬ 9223372036854775807 < 2 + bk.length := by have := HBK.out; omega
      have HZL1 := Lib.hid (show z1.length ≤ 2000 from by rw [← hz1, List.length_append]; have := HBK.out; simp only [List.length_cons, List.length_nil]; omega)
      obtain ⟨z2, hz2⟩ : ∃ z, k ++ [58] = z := ⟨_, rfl⟩
      have ez2 : (⟨k.toArray⟩ : ByteArray) ++ ⟨#[58]⟩ = ⟨z2.toArray⟩ := by rw [← hz2]; exact app_eq k [58]
      have hsum2 : ¬ 9223372036854775807 < k.length + 1 := by have := HKL.out; omega
      have HZL2 := Lib.hid (show z2.length ≤ 2000 from by rw [← hz2, List.length_append]; have := HKL.out; simp only [List.length_cons, List.length_nil]; omega)
      have HPZ := Lib.hid (show Xc.put [Xc.lJ ++ bk, k ++ [58]] S2 = Xc.put [z1, z2] S2 from by rw [← hz1, ← hz2]; rfl)
      clear hz1 hz2
      have hbe5 : Below w4.heap.size w4 (w4.alloc (.cells #[.string ⟨z1.toArray⟩, .string ⟨z2.toArray⟩] 9)) := (Below.refl _ _).alloc (Nat.le_refl _) _
      have C5 := Lib.hid (show Calls Tryd.prog 44 #[.pointer (some ⟨gm, 0, none⟩), .slice (some ⟨w4.heap.size, 0, none⟩) 2 2] (w4.alloc (.cells #[.string ⟨z1.toArray⟩, .string ⟨z2.toArray⟩] 9)) fun e w' => e = .returned (.tuple #[]) ∧ Xc.To F4 (w4.alloc (.cells #[.string ⟨z1.toArray⟩, .string ⟨z2.toArray⟩] 9)) gm tag (Xc.put [z1, z2] (S2)) w' from
        xput_any (hm4.kept hbe5) HNE2.out (HOK2.out.mono (by omega)) (.slice (some ⟨w4.heap.size, 0, none⟩) 2 2) [z1, z2] (rd_new [z1, z2] (Bk.fresh w4 _ _) (by simp)) (by simp))
      have HBE5 := Lib.hid hbe5
      clear hbe5
      go_wp2_with (go_at_call 44; refine C5.out.mono ?_)
      rintro e w5 ⟨rfl, F5, hm5, st5⟩
      go_wp2_with fail
      go_ret2
      rw [HP.out, HBA.out]
      dsimp only
      rw [HPZ.out]
      exact ⟨rfl, F5, hm5, (((Step.of_below HBE.out).trans st2).trans ((Step.of_below HBE3.out).trans st4)).trans ((Step.of_below HBE5.out).trans st5)⟩
set_option maxRecDepth 100000 in
set_option maxHeartbeats 2000000 in
theorem xends_any {F : Nat → Prop} {w : World} {gm : Nat} {tag : List UInt8} {S : Xc.S} (h : Xc.Mk F w gm tag S) (hne : S.words ≠ []) (hok : Xc.Ok 10 S) (hT : Xc.Tb F w) (ht : tag.length ≤ 31) (c : List UInt8) :
    Calls Tryd.prog 105 #[.pointer (some ⟨gm, 0, none⟩), .string ⟨c.toArray⟩] w (Xc.EndsPost F w gm tag (Xc.ends tag c S)) := by
  by_cases hElse : c = [69, 76, 83, 69]
  · subst hElse; exact xends_Else h hne hok hT ht
  by_cases hThen : c = [84, 72, 69, 78]
  · subst hThen; exact xends_Then h hne hok hT ht
  by_cases hAgain : c = [65, 71, 65, 73, 78]
  · subst hAgain; exact xends_Again h hne hok hT ht
  by_cases hUntil : c = [85, 78, 84, 73, 76]
  · subst hUntil; exact xends_Until h hne hok hT ht
  by_cases hRepeat : c = [82, 69, 80, 69, 65, 84]
  · subst hRepeat; exact xends_Repeat h hne hok hT ht
  have HP := Lib.hid (show Xc.ends tag c S = none from by unfold Xc.ends; rw [if_neg (show ¬ c = Xc.tElse from hElse), if_neg (show ¬ c = Xc.tThen from hThen), if_neg (show ¬ c = Xc.tAgain from hAgain), if_neg (show ¬ c = Xc.tUntil from hUntil), if_neg (show ¬ c = Xc.tRepeat from hRepeat)])
  have eElse : (c == [69, 76, 83, 69]) = false := by simpa using hElse
  have eThen : (c == [84, 72, 69, 78]) = false := by simpa using hThen
  have eAgain : (c == [65, 71, 65, 73, 78]) = false := by simpa using hAgain
  have eUntil : (c == [85, 78, 84, 73, 76]) = false := by simpa using hUntil
  have eRepeat : (c == [82, 69, 80, 69, 65, 84]) = false := by simpa using hRepeat
  clear h hne hok hT ht hElse hThen hAgain hUntil hRepeat
  go_enter Tryd.func105, Tryd.ntmps105
  go_wp2_with fail
  go_ret2
  rw [HP.out]
  exact ⟨rfl, rfl⟩
end Go.Proofs.YtfafdkbnmfpbmaaDoor
