/- Flow, the program's side: here. -/
import Derived.Test.YtfafdkbnmfpbmaaDoorF8Own6
namespace Go.Proofs.YtfafdkbnmfpbmaaDoor
open Go.RowKit Kit
set_option linter.unusedVariables false
set_option linter.unusedSimpArgs false

theorem F8.here_room {B gm H : Nat} {S : F8.St} {W0 : World} (h : F8.MkO B W0 gm H S) {AM : Option Addr} {cM : Nat} {ls : List (List UInt8)} {k : List UInt8} (hc : ∀ W, Below W0.heap.size W0 W → W.cell? ⟨gm, 0, none⟩ = some (.slice AM S.out.length cM)) (w3 : World) (v3 : Value) (hb : Below W0.heap.size W0 w3)
    (ho : w3.ownsRow W0.heap.size 9 1 v3 (ls.length + 1) (L6.sv ls ++ [.string ⟨k.toArray⟩])) :
    (∃ A3 c3, v3 = .slice A3 (ls.length + 1) c3) ∧ (∀ W', Below w3.heap.size w3 W' → W'.cell? ⟨gm, 0, none⟩ = some (.slice AM S.out.length cM)) ∧ w3.frozen? ⟨gm, 0, none⟩ = false ∧ ∃ cs, (w3.alloc (.cells #[v3, .string ⟨#[]⟩, .slice none 0 0] 42)).ownsRow B 42 3 (.slice AM S.out.length cM) S.out.length cs ∧
      Src Tryd.prog 3 25 (.slice (some ⟨w3.heap.size, 0, none⟩) 1 1) 1 [v3, .string ⟨#[]⟩, .slice none 0 0] (w3.alloc (.cells #[v3, .string ⟨#[]⟩, .slice none 0 0] 42)) ∧ B ≤ (w3.alloc (.cells #[v3, .string ⟨#[]⟩, .slice none 0 0] 42)).heap.size ∧
      ∀ v' w', w'.ownsRow B 42 3 v' (S.out.length + 1) (cs ++ [v3, .string ⟨#[]⟩, .slice none 0 0]) → Below B (w3.alloc (.cells #[v3, .string ⟨#[]⟩, .slice none 0 0] 42)) w' → (w3.alloc (.cells #[v3, .string ⟨#[]⟩, .slice none 0 0] 42)).grownBy w' (Value.slice AM S.out.length cM).ownBlock → F8.Where (Value.slice AM S.out.length cM) v' (w3.alloc (.cells #[v3, .string ⟨#[]⟩, .slice none 0 0] 42)).heap.size →
        (∃ A' c', v' = .slice A' (S.out.length + 1) c') ∧ w'.cell? ⟨gm, 0, none⟩ = some (.slice AM S.out.length cM) ∧ w'.frozen? ⟨gm, 0, none⟩ = false ∧
        Hid (F8.MkO B (w'.setCell ⟨gm, 0, none⟩ v') gm (w'.setCell ⟨gm, 0, none⟩ v').heap.size ⟨S.out ++ [F8.at_ ls k], S.opn, S.made⟩ ∧ F8.Stay gm B W0 (w'.setCell ⟨gm, 0, none⟩ v')) := by
  have hz3 : OwnZ W0.heap.size w3 v3 (ls ++ [k]) := .inl (by unfold OwnS; simpa [L6.sv_append, L6.sv] using ho)
  have hnew : F8.New H w3.heap.size v3 (.slice none 0 0) := ⟨fun j hj => ⟨Nat.le_trans h.le (hz3.blk_lt hj).1, (hz3.blk_lt hj).2⟩, (fun j hj => by cases hj), (fun j _ e => by cases e)⟩
  obtain ⟨A, c, cs, k0, f0, hkk, ho1, hs1, hz1, hput⟩ := F8.Mk.room0 F8.uo llrt (h.kept hb) ⟨ls ++ [k], [], []⟩ (.inl (hz3.rebase h.size)) (.inl (.inl (OwnS.nil B w3))) (fun _ => hnew)
  have e := (hc w3 hb).symm.trans k0
  injection e with e
  injection e with e1 e2 e3
  subst e1 e3
  refine ⟨(Rd.of_own ho).form, hkk, f0, cs, ho1, hs1, hz1, fun v' w' g1 g2 g3 g4 => ?_⟩
  obtain ⟨a1, a2, a3, a4⟩ := hput v' w' g1 g2 g3 g4
  exact ⟨a1, a2, a3, Lib.hid ⟨a4.out.1.later a4.out.1.le (Nat.le_refl _), (F8.Stay.of hb h.size h.lt).trans a4.out.2⟩⟩
set_option maxRecDepth 100000 in
set_option maxHeartbeats 4000000 in
theorem fhere_any {B gm H : Nat} {S : F8.St} (w : World) (h : F8.MkO B w gm H S) (vl va : Value) (s : ByteArray) (ls : List (List UInt8)) (k : List UInt8) (hl : RdS w vl ls) (hll : ls.length ≤ 100000) (hva : ∃ A n c, va = .slice A n c) (ho : S.out.length ≤ 100000) :
    Calls Tryd.prog 69 #[.pointer (some ⟨gm, 0, none⟩), .agg #[vl, .string s, va], .string ⟨k.toArray⟩] w fun e w' => e = .returned (.tuple #[]) ∧ F8.MkO B w' gm w'.heap.size ⟨S.out ++ [F8.at_ ls k], S.opn, S.made⟩ ∧ F8.Stay gm B w w' := by
  obtain ⟨A0, n0, c0, rfl⟩ := hva
  obtain ⟨A1, c1, rfl⟩ := hl.form
  obtain ⟨W0, hW0⟩ : ∃ W0, w.alloc (.cells #[.slice A1 ls.length c1, .string s, .slice A0 n0 c0] 42) = W0 := ⟨_, rfl⟩
  have hbe : Below w.heap.size w W0 := by rw [← hW0]; exact (Below.refl _ _).alloc (Nat.le_refl _) _
  have hbl : Bk W0 w.heap.size 42 #[.slice A1 ls.length c1, .string s, .slice A0 n0 c0] := by rw [← hW0]; exact Bk.fresh w _ _
  have HM0 := Lib.hid (h.kept hbe)
  have HST0 := Lib.hid (F8.Stay.of hbe h.size h.lt)
  have hl0 : RdS W0 (.slice A1 ls.length c1) ls := hl.kept hbe
  have CC := Lib.hid (fun W (hW : Below W0.heap.size W0 W) => lclone_any (.slice A1 ls.length c1) ls W (hl0.kept hW) (by omega))
  obtain ⟨vo, vp, cs0, q1, q2, q3, q4, q5⟩ := HM0.out.obj
  obtain ⟨AM, cM, rfl⟩ := (Rd.of_own q2).form
  have HC := Lib.hid (fun W (hW : Below W0.heap.size W0 W) => show W.cell? ⟨gm, 0, none⟩ = some (.slice AM S.out.length cM) ∧ W.cell? ⟨w.heap.size, 0, none⟩ = some (.slice A1 ls.length c1) from ⟨(q1.kept hW).cell 0, (hbl.kept hW).cell 0⟩)
  have HLs := Lib.hid (show (ls.length + 1) * 16 ≤ 140737488355328 ∧ ls.length + 1 ≤ maxLen from by unfold maxLen; omega)
  have HLo := Lib.hid (show (S.out.length + 1) * 64 ≤ 140737488355328 ∧ S.out.length + 1 ≤ maxLen from by unfold maxLen; omega)
  clear h hl hbe hbl hl0 q1 q2 q3 q4 q5 hll ho
  go_enter Tryd.func69, Tryd.ntmps69
  go_wp2_with fail
  obtain ⟨k0, k1⟩ := HC.out _ (Below.refl _ _)
  obtain ⟨j0, j1⟩ := HC.out _ ((Below.refl _ _).alloc (Nat.le_refl _) (.cells #[.string ⟨k.toArray⟩] 9))
  have HR := Lib.hid (F8.here_room (ls := ls) (k := k) HM0.out (fun W hW => (HC.out W hW).1))
  go_region_law (first
    | (go_simp; go_at_call 61; refine (CC.out _ (by first | exact (Below.refl _ _).drew | exact (Below.refl _ _).drew.alloc (Nat.le_refl _) _ | exact ((Below.refl _ _).alloc (Nat.le_refl _) _).drew)).mono ?_; rintro e w2 ⟨v2, rfl, hv2, hb2⟩; obtain ⟨A2, c2, rfl⟩ := hv2.form; have HB2 := Lib.hid (show Below W0.heap.size W0 w2 from F8.below_via (W0 := W0) (by first | exact (Below.refl _ _).drew | exact (Below.refl _ _).drew.alloc (Nat.le_refl _) _ | exact ((Below.refl _ _).alloc (Nat.le_refl _) _).drew) hb2); have HV2 := Lib.hid (show w2.ownsRow W0.heap.size 9 1 (.slice A2 ls.length c2) ls.length (L6.sv ls) from own_rebase hv2 (by first | exact Nat.le_refl _ | simp)); obtain ⟨i0, i1⟩ := HC.out _ HB2.out; obtain ⟨g0, g1⟩ := HC.out _ (HB2.out.alloc HB2.out.size (.cells #[.string ⟨k.toArray⟩] 9)); (first | (have HSB := Lib.hid (show Bk w2 W0.heap.size 9 #[.string ⟨k.toArray⟩] from (show Bk (W0.alloc (.cells #[.string ⟨k.toArray⟩] 9)).drew W0.heap.size 9 #[.string ⟨k.toArray⟩] from Bk.fresh W0 _ _).kept hb2)) | skip))
    | (refine step_appendR (by rfl) _ _ _ _ (by rfl) lsrt (by decide) W0.heap.size (.slice A2 ls.length c2) (by rfl) ls.length (L6.sv ls) (by first | exact HV2.out | exact own_kept HV2.out ((Below.refl _ _).alloc (Nat.le_refl _) _)) _ (by rfl) 1 [.string ⟨k.toArray⟩] (by first | exact src_one w2 k | exact Rd.src lsrt (Rd.built HSB.out rfl) (by intro u hu; simp at hu; subst hu; rfl)) HLs.out.1 HLs.out.2 (by first | exact HB2.out.size | (have := HB2.out.size; simp; omega)) ?_; intro v3 w3 ho3 hb3 hg3; have HB3 := Lib.hid (show Below W0.heap.size W0 w3 from by first | exact HB2.out.trans hb3 | exact (HB2.out.alloc HB2.out.size _).trans hb3); obtain ⟨⟨A3, c3, rfl⟩, hkk, hff, cs, ho4, hs4, hz4, hput⟩ := HR.out w3 v3 HB3.out ho3; have l0 := hkk _ (Below.refl _ _); have l1 := hkk _ ((Below.refl _ _).alloc (Nat.le_refl _) (.cells #[.slice A3 (ls.length + 1) c3, .string ⟨#[]⟩, .slice none 0 0] 42)); have HO4 := Lib.hid ho4; have HS4 := Lib.hid hs4; have HZ4 := Lib.hid hz4; have HPUT := Lib.hid hput; clear ho3 hb3 hg3 ho4 hs4 hz4 hput hkk)
    | (refine step_appendRB (by rfl) _ _ _ _ (by rfl) llrt (by decide) B (.slice AM S.out.length cM) (by rfl) S.out.length cs HO4.out _ (by rfl) 1 [.slice A3 (ls.length + 1) c3, .string ⟨#[]⟩, .slice none 0 0] HS4.out HLo.out.1 HLo.out.2 HZ4.out ?_; intro v5 w5 ho5 hb5 hg5 hv5; obtain ⟨⟨A5, c5, rfl⟩, m0, m1, HM⟩ := HPUT.out v5 w5 ho5 hb5 hg5 hv5))
  all_goals go_wp2_with fail
  all_goals go_end0
  all_goals exact ⟨rfl, HM.out.1, HST0.out.trans HM.out.2⟩
end Go.Proofs.YtfafdkbnmfpbmaaDoor
