/- The walk of the law NamesApart. -/
import Derived.Test.YtfffkfcemajcpaaNmMem
import Derived.StillTailTactics
namespace Go.Proofs.Ytfffkfcemajcpaa
open Go.RowKit Kit
set_option linter.unusedVariables false
set_option linter.unusedSimpArgs false

theorem still_of {P : Program} {f : FuncId} {args : Array Value} {w : World} {v : Value} (h : Calls P f args w fun e w' => e = .returned v ∧ w = w') : Calls P f args w fun e w' => e = .returned v ∧ w' = w :=
  h.mono fun _ _ ⟨he, hw⟩ => ⟨he, hw.symm⟩

theorem two_cells (w w' : World) (x0 x1 x2 x3 x4 y0 y1 y2 y3 y4 : Value) (T : TypeId) (h : Below (w.heap.size + 1 + 1) ((w.alloc (.cells #[x0, x1, x2, x3, x4] T)).alloc (.cells #[y0, y1, y2, y3, y4] T)) w') :
    w'.cell? ⟨w.heap.size, 0, none⟩ = some x0 ∧ w'.cell? ⟨w.heap.size, 1, none⟩ = some x1 ∧ w'.cell? ⟨w.heap.size, 2, none⟩ = some x2 ∧ w'.cell? ⟨w.heap.size, 3, none⟩ = some x3 ∧ w'.cell? ⟨w.heap.size, 4, none⟩ = some x4 ∧ w'.cell? ⟨w.heap.size + 1, 0, none⟩ = some y0 ∧ w'.cell? ⟨w.heap.size + 1, 1, none⟩ = some y1 ∧ w'.cell? ⟨w.heap.size + 1, 2, none⟩ = some y2 ∧ w'.cell? ⟨w.heap.size + 1, 3, none⟩ = some y3 ∧ w'.cell? ⟨w.heap.size + 1, 4, none⟩ = some y4 := by
  have k := fun o => h.cell (p := ⟨w.heap.size, o, none⟩) (by show w.heap.size < _; omega)
  have k' := fun o => h.cell (p := ⟨w.heap.size + 1, o, none⟩) (by show w.heap.size + 1 < _; omega)
  have e : ∀ o, ((w.alloc (.cells #[x0, x1, x2, x3, x4] T)).alloc (.cells #[y0, y1, y2, y3, y4] T)).cell? ⟨w.heap.size, o, none⟩ = #[x0, x1, x2, x3, x4][o]? := fun o => by
    rw [World.cell?_alloc_past _ _ _ (by simp), World.cell?_alloc_at _ _ _ _ rfl]
  have e' : ∀ o, ((w.alloc (.cells #[x0, x1, x2, x3, x4] T)).alloc (.cells #[y0, y1, y2, y3, y4] T)).cell? ⟨w.heap.size + 1, o, none⟩ = #[y0, y1, y2, y3, y4][o]? := fun o => by
    rw [World.cell?_alloc_at _ _ _ _ (by simp)]
  refine ⟨(k 0).trans (e 0), (k 1).trans (e 1), (k 2).trans (e 2), (k 3).trans (e 3), (k 4).trans (e 4), (k' 0).trans (e' 0), (k' 1).trans (e' 1), (k' 2).trans (e' 2), (k' 3).trans (e' 3), (k' 4).trans (e' 4)⟩

def Nm.sameHead (s : ByteArray) (fl : Int) (a b c : Nat) (s' : ByteArray) (fl' : Int) (a' b' c' : Nat) : Bool := s.toList == s'.toList && ((fl == fl') && (((a : Int) == a') && (((b : Int) == b') && ((c : Int) == c'))))
theorem head_eql (s : ByteArray) (fl : Int) (a b c : Nat) (s' : ByteArray) (fl' : Int) (a' b' c' : Nat) (w : World) :
    (binOp .eql 38 (hv s fl a b c) (hv s' fl' a' b' c')).run Try.prog w = .ok (.bool (Nm.sameHead s fl a b c s' fl' a' b' c')) w := by
  have hS : Try.prog.underlying 38 = some (.struct (Try.prog.fieldsOf 38)) := by kernel_rfl
  have hP : Try.prog.stoodInHeld 38 = false := by kernel_rfl
  have u9 := Try.underlying9
  have u3 := Try.underlying3
  have u29 := Try.underlying29
  rw [run_eql_struct, show (10000 : Nat) = 9999 + 1 from rfl, run_equalIn_agg w 9999 38 _ _ hS hP]
  simp only [Program.fieldsOf, Try.underlying38]
  go_simp
  by_cases h1 : s.toList = s'.toList <;> by_cases h2 : fl = fl' <;> by_cases h3 : (a : Int) = a' <;> by_cases h4 : (b : Int) = b' <;> by_cases h5 : (c : Int) = c' <;> simp [h1, h2, h3, h4, h5, Nm.sameHead]

theorem Nm.le4_inj {a a' : Nat} (ha : a < 4294967296) (ha' : a' < 4294967296) (h : Nm.le4 a = Nm.le4 a') : a = a' := by
  simp only [Nm.le4, List.cons.injEq, ← UInt8.toNat_inj, UInt8.toNat_ofNat', and_true] at h
  omega
theorem Nm.headB_inj {l l' : List UInt8} {fl fl' a b c a' b' c' : Nat} (hl : l.length ≤ 31) (hl' : l'.length ≤ 31) (hf : fl ≤ 15) (hf' : fl' ≤ 15) (ha : a < 4294967296) (hb : b < 4294967296) (hc : c < 4294967296)
    (ha' : a' < 4294967296) (hb' : b' < 4294967296) (hc' : c' < 4294967296) (h : Nm.headB l fl a b c = Nm.headB l' fl' a' b' c') : l = l' ∧ fl = fl' ∧ a = a' ∧ b = b' ∧ c = c' := by
  simp only [Nm.headB, Nm.les, List.flatMap_cons, List.flatMap_nil, List.append_nil, List.append_assoc] at h
  obtain ⟨h1, h⟩ := List.append_inj h rfl
  obtain ⟨h2, h⟩ := List.append_inj h rfl
  obtain ⟨h3, h⟩ := List.append_inj h rfl
  obtain ⟨h4, h⟩ := List.append_inj h rfl
  simp only [List.cons.injEq, ← UInt8.toNat_inj, UInt8.toNat_ofNat', and_true] at h4
  have e : l.length = l'.length := by omega
  obtain ⟨h5, _⟩ := List.append_inj h e
  exact ⟨h5, by omega, Nm.le4_inj ha ha' h1, Nm.le4_inj hb hb' h2, Nm.le4_inj hc hc' h3⟩
theorem Nm.errN_zero {l : List UInt8} {fl : Int} (h : Nm.errN l fl = 0) : l.length ≤ 31 ∧ 0 ≤ fl ∧ fl ≤ 15 := by
  unfold Nm.errN at h
  split at h
  · cases h
  · rename_i hr
    split at h
    · cases h
    · refine ⟨?_, by omega, by omega⟩
      have hr' : Nm.right l = true := by simpa using hr
      simp [Nm.right] at hr'
      omega
theorem Nm.head_law (s : ByteArray) (fl : Int) (a b c : Nat) (s' : ByteArray) (fl' : Int) (a' b' c' : Nat) (he : Nm.errN s.data.toList fl = 0) (he' : Nm.errN s'.data.toList fl' = 0) (ha : a < 4294967296) (hb : b < 4294967296) (hc : c < 4294967296)
    (ha' : a' < 4294967296) (hb' : b' < 4294967296) (hc' : c' < 4294967296) : (Nm.outB s.data.toList fl a b c == Nm.outB s'.data.toList fl' a' b' c') = Nm.sameHead s fl a b c s' fl' a' b' c' := by
  obtain ⟨h1, h2, h3⟩ := Nm.errN_zero he
  obtain ⟨h1', h2', h3'⟩ := Nm.errN_zero he'
  rw [Nm.outB, Nm.outB, if_pos he, if_pos he', Bool.eq_iff_iff]
  simp only [beq_iff_eq, Nm.sameHead, Bool.and_eq_true, Nm.toList_nil]
  constructor
  · intro h
    obtain ⟨k1, k2, k3, k4, k5⟩ := Nm.headB_inj h1 h1' (by omega) (by omega) ha hb hc ha' hb' hc' h
    exact ⟨k1, by omega, by omega, by omega, by omega⟩
  · rintro ⟨k1, k2, k3, k4, k5⟩
    obtain rfl : a = a' := by omega
    obtain rfl : b = b' := by omega
    obtain rfl : c = c' := by omega
    subst k2
    rw [k1]

set_option maxHeartbeats 1000000 in
theorem core_namesApart (s : ByteArray) (fl : Int) (a b c : Nat) (s' : ByteArray) (fl' : Int) (a' b' c' : Nat) (w : World) (hs : s.size ≤ maxLen) (ha : a < 4294967296) (hb : b < 4294967296) (hc : c < 4294967296)
    (hs' : s'.size ≤ maxLen) (ha' : a' < 4294967296) (hb' : b' < 4294967296) (hc' : c' < 4294967296) :
    Calls Try.prog 5 #[hv s fl a b c, hv s' fl' a' b' c'] w fun e w' => e = .returned (.bool true) ∧ Below w.heap.size w w' := by
  have hm := hs
  have hm' := hs'
  unfold maxLen at hm hm'
  by_cases h : 2000 < s.size
  · go_enter Try.func5, Try.ntmps5
    go_wp2_with (go_at_call 17; refine (knows_any _).mono ?_; rintro e w' ⟨rfl, hb⟩)
    go_ret
    exact ⟨rfl, ((((Below.refl _ _).alloc (Nat.le_refl _) _).alloc (by simp) _).trans (hb.mono (by simp; omega)))⟩
  by_cases h' : 2000 < s'.size
  · go_enter Try.func5, Try.ntmps5
    go_wp2_with (go_at_call 17; refine (knows_any _).mono ?_; rintro e w' ⟨rfl, hb⟩)
    go_ret
    exact ⟨rfl, ((((Below.refl _ _).alloc (Nat.le_refl _) _).alloc (by simp) _).trans (hb.mono (by simp; omega)))⟩
  go_enter Try.func5, Try.ntmps5
  go_wp2_with fail
  refine (own_any s fl a b c _).mono ?_
  rintro e w1 ⟨rfl, hb1⟩
  simp only [World.size_alloc] at hb1
  go_wp2_with fail
  refine (bytes_any s fl a b c _ hs ha hb hc).mono ?_
  rintro e w2 ⟨v, rfl, ho, hb2⟩
  have hB2 := hb1.trans (hb2.mono (by have := hb1.size; simp at this; omega))
  obtain ⟨-, -, -, -, -, q0, q1, q2, q3, q4⟩ := two_cells _ _ _ _ _ _ _ _ _ _ _ _ _ hB2
  have HB2 := Lib.hid hB2; have HB1 := Lib.hid hb2; clear hB2 hb1 hb2
  go_wp2_with fail
  refine (own_any s' fl' a' b' c' _).mono ?_
  rintro e w3 ⟨rfl, hb3⟩
  go_wp2_with fail
  refine (bytes_any s' fl' a' b' c' _ hs' ha' hb' hc').mono ?_
  rintro e w4 ⟨v', rfl, ho', hb4⟩
  have h34 := hb3.trans (hb4.mono hb3.size)
  have HO := Lib.hid ((ho.below h34 (fun g hg => (ho.lt g hg).2)).rd)
  have HO' := Lib.hid ho'.rd
  have hz2 : w.heap.size + 2 ≤ w2.heap.size := by have := HB2.out.size; simpa using this
  have hB4 := HB2.out.trans (h34.mono (by omega))
  have HB4 := Lib.hid hB4
  clear hb3 hb4 h34 hB4 HB2 ho ho' HB1
  generalize hE : Nm.errN s.data.toList fl = E
  generalize hE' : Nm.errN s'.data.toList fl' = E'
  have HE := Lib.hid hE; have HE' := Lib.hid hE'; clear hE hE'
  by_cases e0 : E = 0
  · by_cases e0' : E' = 0
    · subst e0 e0'
      go_wp2_with fail
      refine wp_region_still_tail 20 (by kernel_rfl) (by kernel_rfl) ?_
      simp only [List.take_succ_cons, List.take_zero, List.drop_succ_cons, List.drop_zero]
      have hd : Below w4.heap.size w4 ({ w4 with drawn := w4.drawn + 1 } : World) := ⟨rfl, rfl, rfl, Nat.le_refl _, fun _ _ => rfl⟩
      generalize ({ w4 with drawn := w4.drawn + 1 } : World) = w5 at hd ⊢
      have hB5 := HB4.out.trans (hd.mono (by have := HB4.out.size; simpa using this))
      obtain ⟨p0, p1, p2, p3, p4, q0, q1, q2, q3, q4⟩ := two_cells _ _ _ _ _ _ _ _ _ _ _ _ _ hB5
      have HB5 := Lib.hid hB5; clear hB5
      have hcv := run_string_of bt Try.underlying9 (HO.out.below hd)
      have hcv' := run_string_of bt Try.underlying9 (HO'.out.below hd)
      clear hd
      repeat ((with_reducible refine wpStill_step (fun K hK => ?_)); go_simp; (with_reducible refine hK _ ?_); clear hK K)
      still_call (still_of (num_any _ _))
      repeat ((with_reducible refine wpStill_step (fun K hK => ?_)); go_simp; (with_reducible refine hK _ ?_); clear hK K)
      still_call (still_of (num_any _ _))
      have hq := fun W => head_eql s fl a b c s' fl' a' b' c' W
      have hL := Nm.head_law s fl a b c s' fl' a' b' c' HE.out HE'.out ha hb hc ha' hb' hc'
      repeat ((with_reducible refine wpStill_step (fun K hK => ?_)); go_simp; (with_reducible refine hK _ ?_); clear hK K)
      refine wpStill_nil ?_
      show wpList _ _ _ _ _ _
      clear hq hL hcv hcv'
      go_wp2_with (go_at_call 17; refine (knows_any _).mono ?_; rintro e w6 ⟨rfl, hb6⟩)
      go_ret
      exact ⟨rfl, ((((Below.refl _ _).alloc (Nat.le_refl _) _).alloc (by simp) _).trans (HB5.out.mono (by omega))).trans (hb6.mono (by have := HB5.out.size; simp at this; omega))⟩
    · subst e0
      have g1 : (E' != 0) = true := by simpa using e0'
      have g2 : (E' == 0) = false := by simpa using e0'
      go_wp2_with fail
      refine wp_region_still_tail 20 (by kernel_rfl) (by kernel_rfl) ?_
      simp only [List.take_succ_cons, List.take_zero, List.drop_succ_cons, List.drop_zero]
      have hd : Below w4.heap.size w4 ({ w4 with drawn := w4.drawn + 1 } : World) := ⟨rfl, rfl, rfl, Nat.le_refl _, fun _ _ => rfl⟩
      generalize ({ w4 with drawn := w4.drawn + 1 } : World) = w5 at hd ⊢
      have HB5 := Lib.hid (HB4.out.trans (hd.mono (by have := HB4.out.size; simpa using this)))
      clear hd
      repeat ((with_reducible refine wpStill_step (fun K hK => ?_)); go_simp; (with_reducible refine hK _ ?_); clear hK K)
      still_call (still_of (num_any _ _))
      repeat ((with_reducible refine wpStill_step (fun K hK => ?_)); go_simp; (with_reducible refine hK _ ?_); clear hK K)
      still_call (still_of (num_any _ _))
      repeat ((with_reducible refine wpStill_step (fun K hK => ?_)); go_simp; (with_reducible refine hK _ ?_); clear hK K)
      refine wpStill_nil ?_
      show wpList _ _ _ _ _ _
      go_wp2_with (go_at_call 17; refine (knows_any _).mono ?_; rintro e w6 ⟨rfl, hb6⟩)
      go_ret
      exact ⟨rfl, ((((Below.refl _ _).alloc (Nat.le_refl _) _).alloc (by simp) _).trans (HB5.out.mono (by omega))).trans (hb6.mono (by have := HB5.out.size; simp at this; omega))⟩
  · have g1 : (E != 0) = true := by simpa using e0
    have g2 : (E == 0) = false := by simpa using e0
    go_wp2_with fail
    refine wp_region_still_tail 20 (by kernel_rfl) (by kernel_rfl) ?_
    simp only [List.take_succ_cons, List.take_zero, List.drop_succ_cons, List.drop_zero]
    have hd : Below w4.heap.size w4 ({ w4 with drawn := w4.drawn + 1 } : World) := ⟨rfl, rfl, rfl, Nat.le_refl _, fun _ _ => rfl⟩
    generalize ({ w4 with drawn := w4.drawn + 1 } : World) = w5 at hd ⊢
    have HB5 := Lib.hid (HB4.out.trans (hd.mono (by have := HB4.out.size; simpa using this)))
    clear hd
    repeat ((with_reducible refine wpStill_step (fun K hK => ?_)); go_simp; (with_reducible refine hK _ ?_); clear hK K)
    still_call (still_of (num_any _ _))
    repeat ((with_reducible refine wpStill_step (fun K hK => ?_)); go_simp; (with_reducible refine hK _ ?_); clear hK K)
    refine wpStill_nil ?_
    show wpList _ _ _ _ _ _
    go_wp2_with (go_at_call 17; refine (knows_any _).mono ?_; rintro e w6 ⟨rfl, hb6⟩)
    go_ret
    exact ⟨rfl, ((((Below.refl _ _).alloc (Nat.le_refl _) _).alloc (by simp) _).trans (HB5.out.mono (by omega))).trans (hb6.mono (by have := HB5.out.size; simp at this; omega))⟩

end Go.Proofs.Ytfffkfcemajcpaa
