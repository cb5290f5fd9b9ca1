/- The walk of lines.cut. -/
import Derived.Test.YtfafdkbnmfpbmaaGreatDoorL6Lines1
namespace Go.Proofs.YtfafdkbnmfpbmaaGreatDoor
open Go.RowKit Go.Shelf Kit
set_option linter.unusedVariables false
set_option linter.unusedSimpArgs false
set_option linter.unusedSectionVars false
attribute [local go_sem] Oper.semAt_some

theorem lines_in (n : Nat) (s : List UInt8) (w : World) :
    CallsIn Fence.wide n Tryz.prog 81 #[.string ⟨s.toArray⟩] w fun e w' => e = .returned (.func (.func 146) #[] #[.pointer (some ⟨w.heap.size, 0, none⟩)]) ∧ w.alloc (.cells (L6.bx s) 9) = w' := by
  refine callsIn_of_wp Tryz.func81 rfl trivial ?_ rfl
  simp only [Tryz.ntmps81, List.size_toArray, List.length_cons, List.length_nil, Nat.reduceAdd, Nat.reduceSub, Array.replicate_succ, Array.replicate_zero, List.push_toArray, List.append_toArray, List.nil_append, List.cons_append]
  gi_wp2
  go_ret
  exact ⟨rfl, rfl⟩
theorem cut_in (n : Nat) (s : List UInt8) (w : World) :
    CallsIn Fence.wide n Tryz.prog 126 #[.string ⟨s.toArray⟩] w fun e w' => e = .returned (.func (.func 190) #[] #[.pointer (some ⟨w.heap.size, 0, none⟩)]) ∧ w.alloc (.cells (L6.bx s) 9) = w' := by
  refine callsIn_of_wp Tryz.func126 rfl trivial ?_ rfl
  simp only [Tryz.ntmps126, List.size_toArray, List.length_cons, List.length_nil, Nat.reduceAdd, Nat.reduceSub, Array.replicate_succ, Array.replicate_zero, List.push_toArray, List.append_toArray, List.nil_append, List.cons_append]
  gi_wp2
  go_ret
  exact ⟨rfl, rfl⟩

/-- Between two rounds of strings.Lines' loop in cut. -/
structure CutAt (l A : Nat) (rec : LoopState → Option Code → Loop) (J : Nat → List UInt8 → World → Prop) (s : List UInt8) (X : World) (k : Nat) : Prop where
  at_ : J k s X
  yb : Bk X A 286 #[.func (.yield l) #[] #[]]
  nb : Bk X (A + 1) 3 #[.int .i64 k]
  db : X.heap[A + 3]? = some (.deferred (some []))
  rb : X.heap[A + 4]? = some (.loop (rec .ready none))
  size : A + 5 ≤ X.heap.size
theorem CutAt.mid {l A : Nat} {rec : LoopState → Option Code → Loop} {J : Nat → List UInt8 → World → Prop} (hM : ∀ k s X X', J k s X → Mid A (A + 5) X X' → J k s X') {s : List UInt8} {X X' : World} {k : Nat}
    (h : CutAt l A rec J s X k) (hm : Mid A (A + 5) X X') (hk : ∀ i, i ≠ A + 2 → X'.heap[i]? = X.heap[i]?) : CutAt l A rec J s X' k :=
  ⟨hM _ _ _ _ h.at_ hm, (hk _ (by omega)).trans h.yb, (hk _ (by omega)).trans h.nb, (hk _ (by omega)).trans h.db, (hk _ (by omega)).trans h.rb, by rw [hm.size]; exact h.size⟩
section fin
variable {l A k : Nat} {rec : LoopState → Option Code → Loop} {J : Nat → List UInt8 → World → Prop} {Jx : World → Prop} {s : List UInt8} {X2 X3 : World}
  (hM : ∀ k s X X', J k s X → Mid A (A + 5) X X' → J k s X') (hMx : ∀ X X', Jx X → Mid A (A + 5) X X' → Jx X')
  (hb2 : X2.heap[A + 4]? = some (.loop (rec .busy none))) (hyb : Bk X2 A 286 #[.func (.yield l) #[] #[]]) (hsb : Bk X2 (A + 2) 9 (L6.bx (L6.piece s).2))
  (hnb : Bk X2 (A + 1) 3 (#[Value.int .i64 k].setIfInBounds 0 (.int .i64 ((k : Int) + 1)))) (hd : X2.heap[A + 3]? = some (.deferred (some []))) (hz : A + 5 ≤ X2.heap.size)
  (hkp : ∀ i, A ≤ i → i < A + 5 → X3.heap[i]? = X2.drew.heap[i]?) (hz3 : X2.drew.heap.size ≤ X3.heap.size)
include hM hMx hb2 hyb hsb hnb hd hz hkp hz3
theorem cut_round (hpost : J (k + 1) (L6.piece s).2 X3) : X3.heap[A + 4]? = some (.loop (rec .busy none)) ∧
    ((Ending.returned (.bool true) = .returned (.bool true) ∧ (∃ k, CutAt l A rec J (L6.piece s).2 (X3.putObj (A + 4) (.loop (rec .ready none))) k) ∧ Bk (X3.putObj (A + 4) (.loop (rec .ready none))) (A + 2) 9 (L6.bx (L6.piece s).2)) ∨
      (Ending.returned (.bool true) = .returned (.bool false) ∧ Jx (X3.putObj (A + 4) (.loop (rec .ready none))) ∧ (X3.putObj (A + 4) (.loop (rec .ready none))).heap[A + 3]? = some (.deferred (some [])) ∧ (X3.putObj (A + 4) (.loop (rec .ready none))).heap[A + 4]? = some (.loop (rec .done (some .ret))))) := by
  have hz' : A + 5 ≤ X3.heap.size := Nat.le_trans hz hz3
  have e0 : Bk X3 A 286 #[.func (.yield l) #[] #[]] := (hkp A (Nat.le_refl _) (by omega)).trans hyb
  have e1 : Bk X3 (A + 1) 3 #[.int .i64 ((k + 1 : Nat) : Int)] := by
    have := (hkp (A + 1) (by omega) (by omega)).trans hnb
    unfold Bk
    simpa using this
  have e2 : Bk X3 (A + 2) 9 (L6.bx (L6.piece s).2) := (hkp (A + 2) (by omega) (by omega)).trans hsb
  refine ⟨(hkp (A + 4) (by omega) (by omega)).trans hb2, .inl ⟨rfl, ⟨k + 1, hM _ _ _ _ hpost ((Mid.refl _ _ _).putObj _ _ (by omega) (by omega)), e0.put _ (by omega), e1.put _ (by omega),
    (World.putObj_heap_other (by omega)).trans ((hkp (A + 3) (by omega) (by omega)).trans hd), World.putObj_heap_same (by omega), by rw [World.putObj_size]; exact hz'⟩, e2.put _ (by omega)⟩⟩
theorem cut_stop (hpost : Jx X3) : X3.heap[A + 4]? = some (.loop (rec .busy none)) ∧
    ((Ending.returned (.bool false) = .returned (.bool true) ∧ (∃ k, CutAt l A rec J (L6.piece s).2 (X3.putObj (A + 4) (.loop (rec .done (some .ret)))) k) ∧ Bk (X3.putObj (A + 4) (.loop (rec .done (some .ret)))) (A + 2) 9 (L6.bx (L6.piece s).2)) ∨
      (Ending.returned (.bool false) = .returned (.bool false) ∧ Jx (X3.putObj (A + 4) (.loop (rec .done (some .ret)))) ∧ (X3.putObj (A + 4) (.loop (rec .done (some .ret)))).heap[A + 3]? = some (.deferred (some [])) ∧ (X3.putObj (A + 4) (.loop (rec .done (some .ret)))).heap[A + 4]? = some (.loop (rec .done (some .ret))))) := by
  have hz' : A + 5 ≤ X3.heap.size := Nat.le_trans hz hz3
  exact ⟨(hkp (A + 4) (by omega) (by omega)).trans hb2, .inr ⟨rfl, hMx _ _ hpost ((Mid.refl _ _ _).putObj _ _ (by omega) (by omega)),
    (World.putObj_heap_other (by omega)).trans ((hkp (A + 3) (by omega) (by omega)).trans hd), World.putObj_heap_same (by omega)⟩⟩
end fin
set_option maxRecDepth 100000 in
set_option maxHeartbeats 1000000 in
theorem cut1_in (n l : Nat) (hn : 9 ≤ n) (J : Nat → List UInt8 → World → Prop) (Jx : World → Prop) (W : World)
    (hM : ∀ k s X X', J k s X → Mid W.heap.size (W.heap.size + 5) X X' → J k s X') (hMx : ∀ X X', Jx X → Mid W.heap.size (W.heap.size + 5) X X' → Jx X')
    (hk : ∀ k s X, J k s X → k ≤ 1000000000)
    (hY : ∀ m k s X, s ≠ [] → W.heap.size + 5 ≤ X.heap.size → J k s X → YieldAt Fence.wide m Tryz.prog l #[.int .i64 ((k : Int) + 1), .string ⟨(L6.trim (L6.piece s).1).toArray⟩] X fun e X' =>
      ∃ b, e = .returned (.bool b) ∧ (∀ i, W.heap.size ≤ i → i < W.heap.size + 5 → X'.heap[i]? = X.heap[i]?) ∧ X.heap.size ≤ X'.heap.size ∧ (if b = true then J (k + 1) (L6.piece s).2 X' else Jx X'))
    (s0 : List UInt8) (hs0 : s0.length ≤ 1000000000) (bp : Nat) (hb : Bk W bp 9 (L6.bx s0)) (h0 : ∀ W1, Below W.heap.size W W1 → J 0 s0 W1) :
    CallsIn Fence.wide n Tryz.prog 190 #[.func (.yield l) #[] #[], .pointer (some ⟨bp, 0, none⟩)] W fun e W' => (∃ v, e = .returned v) ∧ ((∃ k, J k [] W') ∨ Jx W') := by
  have h1 : 1 ≤ n := by omega
  have HS0 := Lib.hid hs0
  have HM := Lib.hid hM
  have HMX := Lib.hid hMx
  have HK := Lib.hid hk
  have HY := Lib.hid hY
  have H0 := Lib.hid h0
  have HB := Lib.hid hb
  have hlt := hb.lt
  have hc := hb.cell 0
  simp only [L6.bx, List.getElem?_toArray, List.getElem?_cons_zero] at hc
  clear hM hMx hk hY h0 hb hs0
  refine callsIn_of_wp_marks Tryz.func190 rfl trivial ?_ rfl
  simp only [Tryz.ntmps190, List.size_toArray, List.length_cons, List.length_nil, Nat.reduceAdd, Nat.reduceSub, Array.replicate_succ, Array.replicate_zero, List.push_toArray, List.append_toArray, List.nil_append, List.cons_append]
  gi_wp2_with (refine ⟨trivial, ?_⟩; gi_at_call 81; refine (lines_in _ s0 _).mono ?_; rintro e w' ⟨rfl, rfl⟩)
  have hsz : (((W.alloc (.cells #[.func (.yield l) #[] #[]] 286)).alloc (.cells #[.int .i64 0] 3)).alloc (.cells (L6.bx s0) 9)).heap.size = W.heap.size + 3 := by simp
  have hb0 : Bk (((W.alloc (.cells #[.func (.yield l) #[] #[]] 286)).alloc (.cells #[.int .i64 0] 3)).alloc (.cells (L6.bx s0) 9)) W.heap.size 286 #[.func (.yield l) #[] #[]] :=
    (Bk.fresh W _ _).kept (((Below.refl _ _).alloc (Nat.le_refl _) _).alloc (by simp) _)
  have hb1 : Bk (((W.alloc (.cells #[.func (.yield l) #[] #[]] 286)).alloc (.cells #[.int .i64 0] 3)).alloc (.cells (L6.bx s0) 9)) (W.heap.size + 1) 3 #[.int .i64 0] := by
    have := (Bk.fresh (W.alloc (.cells #[.func (.yield l) #[] #[]] 286)) 3 #[.int .i64 0]).kept ((Below.refl _ _).alloc (Nat.le_refl _) (.cells (L6.bx s0) 9))
    rwa [World.size_alloc] at this
  have hb2 : Bk (((W.alloc (.cells #[.func (.yield l) #[] #[]] 286)).alloc (.cells #[.int .i64 0] 3)).alloc (.cells (L6.bx s0) 9)) (W.heap.size + 2) 9 (L6.bx s0) := by
    have := Bk.fresh ((W.alloc (.cells #[.func (.yield l) #[] #[]] 286)).alloc (.cells #[.int .i64 0] 3)) 9 (L6.bx s0)
    rwa [World.size_alloc, World.size_alloc] at this
  have hbw : Below W.heap.size W (((W.alloc (.cells #[.func (.yield l) #[] #[]] 286)).alloc (.cells #[.int .i64 0] 3)).alloc (.cells (L6.bx s0) 9)) :=
    (((Below.refl _ _).alloc (Nat.le_refl _) _).alloc (by simp) _).alloc (by simp; omega) _
  generalize ((W.alloc (.cells #[.func (.yield l) #[] #[]] 286)).alloc (.cells #[.int .i64 0] 3)).alloc (.cells (L6.bx s0) 9) = W2 at hsz hb0 hb1 hb2 hbw ⊢
  refine range_at (gf := 146) (lb := #[.pointer (some ⟨W.heap.size + 1 + 1, 0, none⟩)]) rfl (enters_of Tryz.func146 (by kernel_rfl) rfl)
    (fun _ X => (∃ k, J k [] X) ∧ X.heap[W.heap.size + 3]? = some (.deferred (some []))) (fun _ c X => Jx X ∧ c = .ret ∧ X.heap[W.heap.size + 3]? = some (.deferred (some []))) ?call ?done ?stop
  case done =>
    rintro fn X ⟨⟨k, hJ⟩, hd⟩
    rw [hsz]
    gi_wp2
    refine ⟨by simp, .inl ⟨_, _, rfl, run_takeDeferred ((World.putObj_heap_other (by omega)).trans hd), ?_⟩⟩
    exact ⟨_, results_none rfl _ _ _, ⟨_, rfl⟩, .inl ⟨k, HM.out _ _ _ _ hJ (((Mid.refl _ _ _).putObj _ _ (by omega) (by omega)).putObj _ _ (by omega) (by omega))⟩⟩
  case stop =>
    rintro fn c X ⟨hJx, rfl, hd⟩
    rw [hsz]
    gi_wp2
    refine ⟨by simp, .inl ⟨_, _, rfl, run_takeDeferred ((World.putObj_heap_other (by omega)).trans hd), ?_⟩⟩
    exact ⟨_, results_none rfl _ _ _, ⟨_, rfl⟩, .inr (HMX.out _ _ hJx (((Mid.refl _ _ _).putObj _ _ (by omega) (by omega)).putObj _ _ (by omega) (by omega)))⟩
  case call =>
    intro fn
    rw [hsz]
    generalize hrec : (rec_ fn _ _ _ _ (W.heap.size + 3)) = rec
    show CallsIn Fence.wide (n - 1) Tryz.prog 146 #[.func (.yield (W.heap.size + 4)) #[] #[], .pointer (some ⟨W.heap.size + 2, 0, none⟩)] _ _
    have hbw3 : Below W2.heap.size W2 ((W2.alloc (.deferred (some []))).alloc (.loop (rec .ready none))) := ((Below.refl _ _).alloc (Nat.le_refl _) _).alloc (by simp) _
    have hd3 : ((W2.alloc (.deferred (some []))).alloc (.loop (rec .ready none))).heap[W.heap.size + 3]? = some (.deferred (some [])) := by
      have := (Below.heap_alloc (W2.alloc (.deferred (some []))) (.loop (rec .ready none)) W2.heap.size (by simp)).trans (World.alloc_heap_new W2 _)
      rwa [hsz] at this
    have hr3 : ((W2.alloc (.deferred (some []))).alloc (.loop (rec .ready none))).heap[W.heap.size + 4]? = some (.loop (rec .ready none)) := by
      have := World.alloc_heap_new (W2.alloc (.deferred (some []))) (.loop (rec .ready none))
      rwa [World.size_alloc, hsz] at this
    have hsz3 : ((W2.alloc (.deferred (some []))).alloc (.loop (rec .ready none))).heap.size = W.heap.size + 5 := by simp [hsz]
    have hJ3 : J 0 s0 ((W2.alloc (.deferred (some []))).alloc (.loop (rec .ready none))) := H0.out _ (hbw.trans (hbw3.mono (by omega)))
    generalize (W2.alloc (.deferred (some []))).alloc (.loop (rec .ready none)) = W3 at hbw3 hd3 hr3 hsz3 hJ3 ⊢
    refine (lines1_in (n - 1) (W.heap.size + 4) (W.heap.size + 2) (by omega) (fun s X => ∃ k, CutAt l W.heap.size rec J s X k) (fun X => Jx X ∧ X.heap[W.heap.size + 3]? = some (.deferred (some [])) ∧ X.heap[W.heap.size + 4]? = some (.loop (rec .done (some .ret)))) ?_ ?_ s0 HS0.out ?_ W3 ⟨0, hJ3, hb0.kept hbw3, hb1.kept hbw3, hd3, hr3, by omega⟩ (hb2.kept hbw3)).mono ?_
    · rintro s X u ⟨k, h⟩
      exact ⟨k, h.mid HM.out ((Mid.refl _ _ _).setCell _ _ _ (by omega) (by omega)) (fun i hi => Below.heap_setCell _ _ _ _ hi)⟩
    · rintro s X ⟨k, h⟩
      exact ⟨k, h.mid HM.out (Mid.refl _ _ _).drew (fun i hi => rfl)⟩
    · rintro s X hs hle ⟨k, h⟩ hbs
      have hr := h.rb
      rw [← hrec] at hr
      refine yield_at hr rfl { tmps := #[.func (.yield l) #[] #[], .pointer (some ⟨bp, 0, none⟩), .pointer (some ⟨W.heap.size, 0, none⟩), .pointer (some ⟨W.heap.size + 1, 0, none⟩), .string ⟨(L6.piece s).1.toArray⟩, .string ⟨s0.toArray⟩, .func (.func 146) #[] #[.pointer (some ⟨W.heap.size + 1 + 1, 0, none⟩)], .string ⟨(L6.piece s).1.toArray⟩, undef, undef, undef, undef, undef, undef, undef, undef], defers := [] } (fun K hK => by gi_wp2; exact hK) ?_
      rw [hrec]
      have hX1b : (X.putObj (W.heap.size + 4) (.loop (rec .busy none))).heap[W.heap.size + 4]? = some (.loop (rec .busy none)) := World.putObj_heap_same (by have := h.size; omega)
      have hX1y := h.yb.put (.loop (rec .busy none)) (l := W.heap.size + 4) (by omega)
      have hX1n := h.nb.put (.loop (rec .busy none)) (l := W.heap.size + 4) (by omega)
      have hX1s := hbs.put (.loop (rec .busy none)) (l := W.heap.size + 4) (by omega)
      have hX1d : (X.putObj (W.heap.size + 4) (.loop (rec .busy none))).heap[W.heap.size + 3]? = some (.deferred (some [])) := (World.putObj_heap_other (by omega)).trans h.db
      have hX1j := HM.out _ _ _ _ h.at_ ((Mid.refl _ _ _).putObj (W.heap.size + 4) (.loop (rec .busy none)) (by omega) (by omega))
      have hX1z : W.heap.size + 5 ≤ (X.putObj (W.heap.size + 4) (.loop (rec .busy none))).heap.size := by rw [World.putObj_size]; exact h.size
      generalize X.putObj (W.heap.size + 4) (.loop (rec .busy none)) = X1 at hX1b hX1y hX1n hX1s hX1d hX1j hX1z ⊢
      clear h hbs hr
      have hk9 := HK.out _ _ _ hX1j
      have hw : IntKind.i64.wrap ((k : Int) + 1) = (k : Int) + 1 := by go_bits; exact trivial
      have c0 := hX1y.cell 0
      have c1 := hX1n.cell 0
      have f1 := hX1n.free 0
      have mixed : Tryz.prog.follows .mixedOrders = true := by kernel_rfl
      have CT := Lib.hid (fun Z => Tryz.strings_TrimSuffix ⟨(L6.piece s).1.toArray⟩ ⟨#[10]⟩ Z (by have h1 := congrArg List.length (L6.piece_app s); simp only [List.length_append] at h1; have h2 := HS0.out; simp [ByteArray.size]; omega))
      gi_wp2_with fail
      have hX2b : (X1.setCell ⟨W.heap.size + 1, 0, none⟩ (.int .i64 ((k : Int) + 1))).heap[W.heap.size + 4]? = some (.loop (rec .busy none)) := (Below.heap_setCell _ _ _ _ (by show W.heap.size + 4 ≠ W.heap.size + 1; omega)).trans hX1b
      have hX2y := (But.setCell X1 (W.heap.size + 1) 0 (.int .i64 ((k : Int) + 1))).bk hX1y (by omega)
      have hX2s := (But.setCell X1 (W.heap.size + 1) 0 (.int .i64 ((k : Int) + 1))).bk hX1s (by omega)
      have hX2n := hX1n.set 0 (.int .i64 ((k : Int) + 1))
      have hX2d : (X1.setCell ⟨W.heap.size + 1, 0, none⟩ (.int .i64 ((k : Int) + 1))).heap[W.heap.size + 3]? = some (.deferred (some [])) := (Below.heap_setCell _ _ _ _ (by show W.heap.size + 3 ≠ W.heap.size + 1; omega)).trans hX1d
      have hX2j := HM.out _ _ _ _ hX1j ((Mid.refl _ _ _).setCell (W.heap.size + 1) 0 (.int .i64 ((k : Int) + 1)) (by omega) (by omega))
      have hX2z : W.heap.size + 5 ≤ (X1.setCell ⟨W.heap.size + 1, 0, none⟩ (.int .i64 ((k : Int) + 1))).heap.size := by simpa [World.setCell] using hX1z
      generalize X1.setCell ⟨W.heap.size + 1, 0, none⟩ (.int .i64 ((k : Int) + 1)) = X2 at hX2b hX2y hX2s hX2n hX2d hX2j hX2z ⊢
      clear hX1b hX1y hX1n hX1s hX1d hX1j hX1z c0 c1 f1
      have c0 := hX2y.cell 0
      have c1 := hX2n.cell 0
      simp only [List.setIfInBounds_toArray, List.set_cons_zero, List.getElem?_toArray, List.getElem?_cons_zero] at c0 c1
      obtain ⟨fn2, tmps2, assign2, body2, hy, hR⟩ := HY.out (n - 1 - 1 - 1) k s X2.drew hs hX2z (HM.out _ _ _ _ hX2j (Mid.refl _ _ _).drew)
      unfold L6.trim at hy
      have HD2 := Lib.hid hX2d
      have HB2 := Lib.hid hX2b
      have HYB2 := Lib.hid hX2y
      have HSB2 := Lib.hid hX2s
      have HNB2 := Lib.hid hX2n
      have HZ2 := Lib.hid hX2z
      clear hX2b hX2y hX2s hX2n hX2d hX2j hX2z
      have hd1 : 1 ≤ n - 1 - 1 := by omega
      have hd2 : 1 ≤ n - 1 - 1 - 1 := by omega
      gi_region_with_o (first
        | (refine ⟨trivial, ?_⟩; gi_at_call 82; refine (CallsIn.inRound _ (callsIn_wide.2 (CT.out _))).mono ?_; rintro e w' ⟨rfl, rfl⟩)
        | (refine hR.mono ?_; rintro e X3 ⟨b, rfl, hkp, hz3, hpost⟩))
      all_goals (cases b <;> (simp only [if_true, if_false, Bool.false_eq_true] at hpost; gi_wp2))
      all_goals first
        | exact cut_round HM.out HMX.out HB2.out HYB2.out HSB2.out HNB2.out HD2.out HZ2.out hkp hz3 hpost
        | exact cut_stop HM.out HMX.out HB2.out HYB2.out HSB2.out HNB2.out HD2.out HZ2.out hkp hz3 hpost
    · rintro e X ⟨hv, (⟨k, h⟩ | ⟨hJx, hd, hr⟩)⟩
      · exact ⟨hv, .inl ⟨h.rb, ⟨k, h.at_⟩, h.db⟩⟩
      · exact ⟨hv, .inr ⟨_, hr, hJx, rfl, hd⟩⟩
end Go.Proofs.YtfafdkbnmfpbmaaGreatDoor
