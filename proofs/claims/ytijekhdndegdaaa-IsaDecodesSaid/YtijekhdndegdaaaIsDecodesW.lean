/- The walk of the law IsaDecodes. -/
import Derived.Test.YtijekhdndegdaaaIsDecodesL
import Derived.Test.YtijekhdndegdaaaIsOpen
import Derived.Test.YtijekhdndegdaaaKitQ
namespace Go.Proofs.Ytijekhdndegdaaa
open Go.RowKit
set_option linter.unusedVariables false
set_option linter.unusedSimpArgs false

set_option maxRecDepth 100000 in
set_option maxHeartbeats 4000000 in
theorem core_isaDecodes (x : Nat) (w : World) (hx : x < 4294967296) : Calls Try.prog 13 #[.int .u32 x] w fun e w' => e = .returned (.bool true) ∧ Below w.heap.size w w' := by
  have c1 := Lib.hid (fun W => dec_own x W hx)
  have c2 := Lib.hid (fun W => dec_ref x W hx)
  generalize Is.dec x = D at *
  obtain ⟨i, e1⟩ := D
  dsimp only at c1 c2
  have hqq := fun W => rinst_eql i i W
  rw [show decide (i = i) = true by simp] at hqq
  have cR := Lib.hid (fun W => iref_any i W)
  obtain ⟨a, b, c, d, f⟩ := i
  clear hx
  go_enter Try.func13, Try.ntmps13
  go_wp2_with fail
  refine (c1.out _).mono ?_
  rintro e w1 ⟨rfl, hb1⟩
  have HB1 := Lib.hid hb1
  clear hb1
  go_wp2_with fail
  refine (c2.out _).mono ?_
  rintro e w2 ⟨rfl, hb2⟩
  rw [World.size_alloc] at hb2
  have HB2 := Lib.hid hb2
  have hz2 : w1.heap.size + 1 ≤ w2.heap.size := by have := hb2.size; simpa using this
  clear hb2
  have HC := Lib.hid (show ∀ W', Below (w2.heap.size + 1) (w2.alloc (.cells #[.int .i64 a, .int .i64 b, .int .i64 c, .int .i64 d, .int .i64 f] 71)) W' → W2cells w1.heap.size W' a b c d f ∧ W2cells w2.heap.size W' a b c d f from fun W' hb => by
    have hb' : Below (w1.heap.size + 1) (w1.alloc (.cells #[.int .i64 a, .int .i64 b, .int .i64 c, .int .i64 d, .int .i64 f] 73)) W' := HB2.out.trans ((((Below.refl w2.heap.size w2).alloc (Nat.le_refl _) _).trans (hb.mono (by omega))).mono hz2)
    exact ⟨⟨(hb'.cell (p := ⟨w1.heap.size, 0, none⟩) (by simp)).trans (by go_simp), (hb'.cell (p := ⟨w1.heap.size, 1, none⟩) (by simp)).trans (by go_simp), (hb'.cell (p := ⟨w1.heap.size, 2, none⟩) (by simp)).trans (by go_simp), (hb'.cell (p := ⟨w1.heap.size, 3, none⟩) (by simp)).trans (by go_simp), (hb'.cell (p := ⟨w1.heap.size, 4, none⟩) (by simp)).trans (by go_simp)⟩,
      ⟨(hb.cell (p := ⟨w2.heap.size, 0, none⟩) (by simp)).trans (by go_simp), (hb.cell (p := ⟨w2.heap.size, 1, none⟩) (by simp)).trans (by go_simp), (hb.cell (p := ⟨w2.heap.size, 2, none⟩) (by simp)).trans (by go_simp), (hb.cell (p := ⟨w2.heap.size, 3, none⟩) (by simp)).trans (by go_simp), (hb.cell (p := ⟨w2.heap.size, 4, none⟩) (by simp)).trans (by go_simp)⟩⟩)
  have HFIN := Lib.hid (show Below w.heap.size w (w2.alloc (.cells #[.int .i64 a, .int .i64 b, .int .i64 c, .int .i64 d, .int .i64 f] 71)) from by
    have h1 := HB1.out.size
    exact (((HB1.out.alloc h1 (.cells #[.int .i64 a, .int .i64 b, .int .i64 c, .int .i64 d, .int .i64 f] 73)).trans (HB2.out.mono (by omega))).alloc (by omega) _))
  have hzw := HB1.out.size
  go_wp2_with fail
  refine Kit.wp_region_class (fun W' => Below (w2.heap.size + 1) (w2.alloc (.cells #[.int .i64 a, .int .i64 b, .int .i64 c, .int .i64 d, .int .i64 f] 71)) W') (by kernel_rfl) (by kernel_rfl) ((Below.refl _ _).drew) ?_
  repeat (first | (refine BigFrame.wpQuiet_skip (by rfl) ?_; (try simp only [Act.put, List.getElem_toArray, List.getElem_cons_zero, List.getElem_cons_succ, List.setIfInBounds_toArray, List.set_cons_zero, List.set_cons_succ])) | (refine BigFrame.wpQuiet_want (by rfl) (fun K hK => ?_); first | (refine BigFrame.quiet_move _ rfl (hK _ ?_); clear hK K; (try simp only [Act.put, List.getElem_toArray, List.getElem_cons_zero, List.getElem_cons_succ, List.setIfInBounds_toArray, List.set_cons_zero, List.set_cons_succ])) | (refine BigFrame.quiet_assign _ rfl (hK _ ?_); clear hK K; (try simp only [Act.put, List.getElem_toArray, List.getElem_cons_zero, List.getElem_cons_succ, List.setIfInBounds_toArray, List.set_cons_zero, List.set_cons_succ])) | (apply Exists.intro; refine ⟨fun W' hW' => ?_, hK _ ?_⟩; (obtain ⟨⟨q0, q1, q2, q3, q4⟩, p0, p1, p2, p3, p4⟩ := HC.out W' hW'; unfold Oper.quietAt; go_simp; (first | done | (with_reducible rfl) | (exact ⟨rfl, rfl⟩) | (first | (go_at_call 53; exact Kit.callS (inum_any _ _) hW') | (go_at_call 59; exact Kit.callB (cR.out _) hW' (by simp)) | (go_at_call 56; exact Kit.callB (iknows_any _) hW' (by simp)) | (refine ⟨rfl, ?_⟩; (first | (go_at_call 53; exact Kit.callS (inum_any _ _) hW') | (go_at_call 59; exact Kit.callB (cR.out _) hW' (by simp)) | (go_at_call 56; exact Kit.callB (iknows_any _) hW' (by simp))))))); clear hK K; (try simp only [Act.put, List.getElem_toArray, List.getElem_cons_zero, List.getElem_cons_succ, List.setIfInBounds_toArray, List.set_cons_zero, List.set_cons_succ]))))
  refine wpQuiet_nil ?_
  intro W9 hW9
  go_wp2_with fail
  go_ret
  exact ⟨rfl, HFIN.out.trans (hW9.mono (by omega))⟩
theorem walk_isaDecodes (y : Int) (w : World) (hy : 0 ≤ y ∧ y ≤ 4294967295) :
    Calls Try.prog 13 #[.int .u32 y] w fun e w' => e = .returned (.bool true) ∧ Below w.heap.size w w' := by
  obtain ⟨n, rfl⟩ := Int.eq_ofNat_of_zero_le hy.1
  exact core_isaDecodes n w (by omega)
end Go.Proofs.Ytijekhdndegdaaa
