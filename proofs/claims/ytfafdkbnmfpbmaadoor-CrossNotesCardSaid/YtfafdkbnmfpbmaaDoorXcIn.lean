/- Layer 12: words within one that is made. -/
import Derived.Test.YtfafdkbnmfpbmaaDoorXcTop
namespace Go.Proofs.YtfafdkbnmfpbmaaDoor
open Go.RowKit Kit
set_option linter.unusedVariables false
set_option linter.unusedSimpArgs false

theorem xlabel0_any (n : List UInt8) (w : World) (hn : n.length ≤ 100000) : Calls Tryd.prog 112 #[.int .i64 0, .string ⟨n.toArray⟩] w fun e w' => e = .returned (.string ⟨(Xc.label0 n).toArray⟩) ∧ Below w.heap.size w w' := by
  have CI := Lib.hid (show ∀ W, Calls Tryd.prog 83 #[.int .i64 0] W fun e w' => e = .returned (.string ⟨#[48]⟩) ∧ Below W.heap.size W w' from fun W => (litoa_any 0 W (by decide) (.inl (by decide))).mono fun e w' h => ⟨h.1.trans (by unfold Lib.decDigits; rfl), h.2⟩)
  have EZ := Lib.hid (show (⟨#[61]⟩ : ByteArray) ++ ⟨#[48]⟩ ++ ⟨n.toArray⟩ = ⟨(Xc.label0 n).toArray⟩ from app_eq [61, 48] n)
  have hsum : ¬ 9223372036854775807 < 2 + n.length := by omega
  generalize Xc.label0 n = z at *
  go_enter Tryd.func112, Tryd.ntmps112
  go_wp2_with (go_at_call 83; refine (CI.out _).mono ?_; rintro e w1 ⟨rfl, hb1⟩)
  go_ret
  exact ⟨congrArg (fun x => Ending.returned (.string x)) EZ.out, hb1⟩
set_option maxRecDepth 100000 in
set_option maxHeartbeats 4000000 in
theorem xquoted_any {F : Nat → Prop} {w : World} {gm : Nat} {tag : List UInt8} {S : Xc.S} (h : Xc.Mk F w gm tag S) (hne : S.words ≠ []) (hok : Xc.Ok 4 S) (hT : Xc.Tb F w) (c : List UInt8) (hc : c = Xc.tTick ∨ c = Xc.tChar) :
    Calls Tryd.prog 109 #[.pointer (some ⟨gm, 0, none⟩), .string ⟨c.toArray⟩] w (Xc.RPost F w gm tag (Xc.quoted c S)) := by
  have hsn := h.seen
  have hs := hok.s
  have hwl := Xc.word_rest S.s
  have CN := Lib.hid (xnext_any gm S.s w hsn.c0 (hsn.f 0) (by omega))
  obtain ⟨m1, s1⟩ := h.setF 0 (.string ⟨(Xc.rest S.s).toArray⟩) (S' := Xc.atRest (Xc.rest S.s) S) rfl rfl (fun vw vo => by simp [Xc.cells, Xc.atRest])
  have HST := Lib.hid s1
  have HM1 := Lib.hid m1
  have HTB := Lib.hid (hT.step s1)
  have HNE := Lib.hid hne
  have HOK := Lib.hid (hok.atRest (Xc.rest S.s) (by omega))
  have HQ := Lib.hid (show Xc.quoted c S = (if Xc.word S.s = [] then .bad 40 else if c = Xc.tTick then .ok (Xc.push (Xc.lLa ++ Xc.label0 (Xc.word S.s)) (Xc.atRest (Xc.rest S.s) S)) else .ok (Xc.push (Xc.lLi ++ Lib.decDigits ((Xc.word S.s).getD 0 0).toNat) (Xc.atRest (Xc.rest S.s) S))) from rfl)
  have HW := Lib.hid (show (Xc.word S.s).length ≤ 100000 from by omega)
  have HZ := Lib.hid (show (w.setCell ⟨gm, 0, none⟩ (.string ⟨(Xc.rest S.s).toArray⟩)).heap.size = w.heap.size by simp [World.setCell])
  clear h hne hok hsn hs hwl m1 s1 hT
  generalize Xc.word S.s = y at *
  generalize Xc.rest S.s = rr at *
  cases y with
  | nil =>
    rw [if_pos rfl] at HQ
    go_enter Tryd.func109, Tryd.ntmps109
    go_wp2_with (go_at_call 79; refine CN.out.mono ?_; rintro e w' ⟨rfl, rfl⟩)
    go_ret
    rw [HQ.out]
    exact ⟨rfl, F, HST.out⟩
  | cons y0 yt =>
    rw [if_neg (by simp)] at HQ
    rcases hc with rfl | rfl
    · rw [if_pos rfl] at HQ
      have CL := Lib.hid (fun W => xlabel0_any (y0 :: yt) W HW.out)
      obtain ⟨z, hz⟩ : ∃ z, Xc.lLa ++ Xc.label0 (y0 :: yt) = z := ⟨_, rfl⟩
      have ez : (⟨#[108, 97, 32, 116, 48, 32]⟩ : ByteArray) ++ ⟨(Xc.label0 (y0 :: yt)).toArray⟩ = ⟨z.toArray⟩ := by rw [← hz]; exact app_eq Xc.lLa _
      have hll : (Xc.label0 (y0 :: yt)).length ≤ 100002 := by have := HW.out; unfold Xc.label0 Xc.lZero; simp only [List.length_append, List.length_cons, List.length_nil] at *; omega
      have hsum : ¬ 9223372036854775807 < 6 + (Xc.label0 (y0 :: yt)).length := by omega
      have HZL := Lib.hid (show z.length ≤ 500000 from by rw [← hz, List.length_append]; simp only [Xc.lLa, List.length_cons, List.length_nil]; omega)
      rw [hz] at HQ
      clear hz hll
      generalize Xc.label0 (y0 :: yt) = lb at *
      go_enter Tryd.func109, Tryd.ntmps109
      go_wp2_with (first | (go_at_call 79; refine CN.out.mono ?_; rintro e w' ⟨rfl, rfl⟩) | (go_at_call 112; refine (CL.out _).mono ?_; rintro e w2 ⟨rfl, hb2⟩))
      have hb2' : Below (w.setCell ⟨gm, 0, none⟩ (.string ⟨rr.toArray⟩)).heap.size (w.setCell ⟨gm, 0, none⟩ (.string ⟨rr.toArray⟩)) w2 := hb2
      have C2 := Lib.hid (xpush_any (HM1.out.kept hb2') HNE.out (HOK.out.mono (by omega)) z HZL.out)
      go_wp2_with (go_at_call 111; refine C2.out.mono ?_; rintro e w3 ⟨rfl, F3, hm3, st3⟩)
      go_ret
      rw [HQ.out]
      exact ⟨rfl, F3, hm3, (HST.out.trans (Step.of_below hb2')).trans st3⟩
    · rw [if_neg (by decide)] at HQ
      have hlt := y0.toNat_lt
      have CI := Lib.hid (litoa_any y0.toNat (w.setCell ⟨gm, 0, none⟩ (.string ⟨rr.toArray⟩)) (by omega) (.inr HTB.out.1))
      obtain ⟨z, hz⟩ : ∃ z, Xc.lLi ++ Lib.decDigits y0.toNat = z := ⟨_, rfl⟩
      have ez : (⟨#[108, 105, 32, 116, 48, 32]⟩ : ByteArray) ++ ⟨(Lib.decDigits y0.toNat).toArray⟩ = ⟨z.toArray⟩ := by rw [← hz]; exact app_eq Xc.lLi _
      have hdl := Xc.dec_len10 2 y0.toNat (by omega)
      have hsum : ¬ 9223372036854775807 < 6 + (Lib.decDigits y0.toNat).length := by omega
      have HZL := Lib.hid (show z.length ≤ 500000 from by rw [← hz, List.length_append]; simp only [Xc.lLi, List.length_cons, List.length_nil]; omega)
      have hpos : 0 < (y0 :: yt).length := by simp
      have hw1 : IntKind.i64.wrap (y0.toNat : Int) = (y0.toNat : Int) := by rw [IntKind.wrap_i64]; omega
      have e0 : (⟨(y0 :: yt).toArray⟩ : ByteArray)[0]'hpos = y0 := L6.get_data (y0 :: yt) 0 hpos
      have HQ2 := Lib.hid (show Xc.quoted Xc.tChar S = .ok (Xc.push z (Xc.atRest rr S)) from by rw [HQ.out, ← hz]; rfl)
      clear hz hdl HQ
      generalize Lib.decDigits y0.toNat = dg at *
      go_enter Tryd.func109, Tryd.ntmps109
      go_wp2_with (first | (go_at_call 79; refine CN.out.mono ?_; rintro e w' ⟨rfl, rfl⟩) | (go_at_call 83; refine CI.out.mono ?_; rintro e w2 ⟨rfl, hb2⟩))
      have hb2' : Below (w.setCell ⟨gm, 0, none⟩ (.string ⟨rr.toArray⟩)).heap.size (w.setCell ⟨gm, 0, none⟩ (.string ⟨rr.toArray⟩)) w2 := hb2
      have C2 := Lib.hid (xpush_any (HM1.out.kept hb2') HNE.out (HOK.out.mono (by omega)) z HZL.out)
      go_wp2_with (go_at_call 111; refine C2.out.mono ?_; rintro e w3 ⟨rfl, F3, hm3, st3⟩)
      go_ret
      rw [HQ2.out]
      exact ⟨rfl, F3, hm3, (HST.out.trans (Step.of_below hb2')).trans st3⟩
end Go.Proofs.YtfafdkbnmfpbmaaDoor
