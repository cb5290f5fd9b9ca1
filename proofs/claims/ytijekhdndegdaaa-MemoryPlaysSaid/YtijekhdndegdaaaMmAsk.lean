/- Walks: ask. -/
import Derived.Test.YtijekhdndegdaaaMmOwn
import Derived.Laws.BitsAllLaws
namespace Go.Proofs.Ytijekhdndegdaaa
open Go.RowKit Kit
set_option linter.unusedVariables false
set_option linter.unusedSimpArgs false

theorem ask_arg (w : World) (gm gb n c a : Nat) (k : Int) (ha : a < 4294967296) (h : w.cell? ⟨gm, 0, none⟩ = some (.slice (some ⟨gb, 0, none⟩) n c)) (h1 : k ≠ 1) (h2 : k ≠ 2) (h4 : k ≠ 4) :
    Calls Try.prog 69 #[.pointer (some ⟨gm, 0, none⟩), .int .u32 a, .int .i64 k] w fun e w' => e = .returned (.int .i64 1) ∧ w = w' := by
  have g1 : (k != 1) = true := by simpa using h1
  have g2 : (k != 2) = true := by simpa using h2
  have g4 : (k != 4) = true := by simpa using h4
  clear h1 h2 h4
  go_enter Try.func69, Try.ntmps69
  go_wp2_with (go_at_call 70; refine (none_own _ gm gb n c h).mono ?_; rintro e w' ⟨rfl, rfl⟩)
  go_ret
  exact ⟨rfl, rfl⟩
theorem ask_nil (w : World) (a : Nat) (k : Int) (ha : a < 4294967296) :
    Calls Try.prog 69 #[.pointer none, .int .u32 a, .int .i64 k] w fun e w' => e = .returned (.int .i64 1) ∧ w = w' := by
  go_enter Try.func69, Try.ntmps69
  go_wp2_with (go_at_call 70; refine (none_nil _).mono ?_; rintro e w' ⟨rfl, rfl⟩)
  go_ret
  exact ⟨rfl, rfl⟩
theorem ask_raw (w : World) (gm a : Nat) (k : Int) (ha : a < 4294967296) (h : w.cell? ⟨gm, 0, none⟩ = some (.slice none 0 0)) :
    Calls Try.prog 69 #[.pointer (some ⟨gm, 0, none⟩), .int .u32 a, .int .i64 k] w fun e w' => e = .returned (.int .i64 1) ∧ w = w' := by
  go_enter Try.func69, Try.ntmps69
  go_wp2_with (go_at_call 70; refine (none_raw _ gm h).mono ?_; rintro e w' ⟨rfl, rfl⟩)
  go_ret
  exact ⟨rfl, rfl⟩

/-- What is told where the width is one that may be. -/
def Mm.askB (len : Nat) (hs : List (Nat × Nat)) (a k : Nat) : Int := if a % k ≠ 0 then 31 else if len < a + k then 30 else if Mm.hits hs a k = true then 30 else 0
def Mm.hitB (h : Nat × Nat) (a k : Nat) : Bool := decide (h.1 < h.2) && (decide (h.1 ≤ a + k - 1) && decide (a < h.2))
theorem Mm.hits_eq (hs : List (Nat × Nat)) (a k : Nat) : Mm.hits hs a k = hs.any fun h => Mm.hitB h a k := rfl
theorem Mm.hits_some {hs : List (Nat × Nat)} {a k j : Nat} (hj : j < hs.length) (h : Mm.hitB (hs.getD j (0, 0)) a k = true) : Mm.hits hs a k = true := by
  rw [Mm.hits_eq, List.any_eq_true]
  exact ⟨hs[j], List.getElem_mem hj, by simpa [List.getD, List.getElem?_eq_getElem hj] using h⟩
theorem Mm.hits_none {hs : List (Nat × Nat)} {a k : Nat} (h : ∀ j, j < hs.length → Mm.hitB (hs.getD j (0, 0)) a k = false) : Mm.hits hs a k = false := by
  rw [Mm.hits_eq, List.any_eq_false]
  intro x hx
  obtain ⟨j, hj, rfl⟩ := List.mem_iff_getElem.1 hx
  simpa [List.getD, List.getElem?_eq_getElem hj] using h j hj

theorem mand (a : Nat) (k : Nat) (ha : a < 4294967296) (hk : k = 1 ∨ k = 2 ∨ k = 4) : (bits .and .u32 (a : Int) ((k : Int) - 1) != 0) = decide (a % k ≠ 0) := by
  have e : bits .and .u32 (a : Int) ((k : Int) - 1) = ((a % k : Nat) : Int) := by
    rcases hk with rfl | rfl | rfl
    · have := u32_and_nat a 0 ha (by decide)
      simpa [Nat.mod_one] using this
    · have := u32_and_nat a 1 ha (by decide)
      simpa [Nat.and_one_is_mod] using this
    · have := u32_and_nat a 3 ha (by decide)
      have h3 : a &&& 3 = a % 4 := Nat.and_two_pow_sub_one_eq_mod a 2
      rw [h3] at this
      simpa using this
  rw [e, Bool.eq_iff_iff]; simp; omega

set_option maxHeartbeats 1000000 in
theorem ask_wide (w : World) (gm gb : Nat) (b : List UInt8) (hs : List (Nat × Nat)) (a k : Nat) (ha : a < 4294967296) (h : OwnM w gm gb b hs) (hk : k = 1 ∨ k = 2 ∨ k = 4) :
    Calls Try.prog 69 #[.pointer (some ⟨gm, 0, none⟩), .int .u32 a, .int .i64 k] w fun e w' => e = .returned (.int .i64 (Mm.askB b.length hs a k)) ∧ Below w.heap.size w w' := by
  obtain ⟨A, c, cap, c0, c1, -, -, hgm, -⟩ := h.cells
  have hN := Lib.hid (none_own w gm gb _ _ c0)
  have hT := Lib.hid (there_own w gm gb _ _ a k h.hi ha c0)
  have hX := mand a k ha hk
  have hlo := h.lo
  have hhi := h.hi
  have hk1 : (1 : Int) ≤ k := by omega
  have hk2 : (k : Int) ≤ 4 := by omega
  have gs : ((k : Int) != 1) = false ∨ (((k : Int) != 1) = true ∧ ((k : Int) != 2) = false) ∨ (((k : Int) != 1) = true ∧ ((k : Int) != 2) = true ∧ ((k : Int) != 4) = false) := by
    rcases hk with rfl | rfl | rfl <;> simp
  have HA : Hid (Mm.askB b.length hs a k = if a % k ≠ 0 then 31 else if b.length < a + k then 30 else if Mm.hits hs a k = true then 30 else 0) := rfl
  have hTB : Mm.thereB b.length a k = decide (a + k ≤ b.length) := by
    unfold Mm.thereB; rw [Bool.eq_iff_iff]; simp; omega
  rw [hTB] at hT
  clear hTB hk
  have hH : ∀ j, j < hs.length → ∀ W, Below w.heap.size w W → ∃ g off, A = some ⟨g, off, none⟩ ∧ W.cell? ⟨g, off + j * 2, none⟩ = some (.int .u32 (hs.getD j (0, 0)).1) ∧ W.cell? ⟨g, off + j * 2 + 1, none⟩ = some (.int .u32 (hs.getD j (0, 0)).2) := by
    intro j hj W hb
    obtain ⟨hv, cap', hobj, -, -, hrd, _⟩ := h.obj
    obtain ⟨A', c', rfl⟩ := hrd.form
    have e1 : A' = A := by
      have := hobj.cell 1
      rw [c1] at this
      simp at this
      exact this.1.symm
    subst e1
    obtain ⟨_, A', c', e, _, _, h4⟩ := hrd.kept hb
    obtain ⟨g, off, rfl, hg, hc⟩ := h4 (by omega)
    injection e with e
    subst e
    exact ⟨g, off, rfl, hc _ _ (Mm.hc_at hs j hj).1, by have := hc _ _ (Mm.hc_at hs j hj).2; rwa [← Nat.add_assoc] at this⟩
  have HH := Lib.hid hH
  have hfew := h.few
  have HS := Lib.hid h.small
  clear hH
  have HC := Lib.hid (show ∀ W, Below w.heap.size w W → W.cell? ⟨gm, 1, none⟩ = some (.slice A hs.length c) from fun W hb => (hb.cell (p := ⟨gm, 1, none⟩) hgm).trans c1)
  clear h
  by_cases x1 : a % k ≠ 0
  · rw [if_pos x1] at HA
    have hX1 : (bits .and .u32 (a : Int) ((k : Int) - 1) != 0) = true := by rw [hX]; simpa using x1
    clear hX x1
    generalize Mm.askB b.length hs a k = R at *
    generalize b.length = len at *
    rcases gs with g1 | ⟨g1, g2⟩ | ⟨g1, g2, g3⟩
    all_goals
      go_enter Try.func69, Try.ntmps69
      go_wp2_with (go_at_call 70; refine hN.out.mono ?_; rintro e w' ⟨rfl, rfl⟩)
      go_ret
      exact ⟨mret_int HA.out.symm, Below.refl _ _⟩
  rw [if_neg x1] at HA
  have hX1 : (bits .and .u32 (a : Int) ((k : Int) - 1) != 0) = false := by rw [hX]; simpa using x1
  clear hX x1
  by_cases x2 : b.length < a + k
  · rw [if_pos x2] at HA
    have hT2 : decide (a + k ≤ b.length) = false := by simp; omega
    rw [hT2] at hT
    clear hT2 x2
    generalize Mm.askB b.length hs a k = R at *
    generalize b.length = len at *
    rcases gs with g1 | ⟨g1, g2⟩ | ⟨g1, g2, g3⟩
    all_goals
      go_enter Try.func69, Try.ntmps69
      go_wp2_with (first | (go_at_call 70; refine hN.out.mono ?_; rintro e w' ⟨rfl, rfl⟩) | (go_at_call 71; refine hT.out.mono ?_; rintro e w' ⟨rfl, rfl⟩))
      go_ret
      exact ⟨mret_int HA.out.symm, Below.refl _ _⟩
  rw [if_neg x2] at HA
  have hT2 : decide (a + k ≤ b.length) = true := by simp; omega
  rw [hT2] at hT
  have x3 : a + k ≤ 1048576 := by omega
  clear hT2 x2
  generalize Mm.askB b.length hs a k = R at *
  generalize b.length = len at *
  rcases gs with g1 | ⟨g1, g2⟩ | ⟨g1, g2, g3⟩
  all_goals
    go_enter Try.func69, Try.ntmps69
    go_wp2_with (first | (go_at_call 70; refine hN.out.mono ?_; rintro e w' ⟨rfl, rfl⟩) | (go_at_call 71; refine hT.out.mono ?_; rintro e w' ⟨rfl, rfl⟩))
    clear hX1 c0 c1
    go_loopw [48] (fun i wr => ∃ j : Nat, j ≤ hs.length ∧ i = .int .i64 j ∧ (∀ t, t < j → Mm.hitB (hs.getD t (0, 0)) a k = false) ∧ Below w.heap.size w wr) (fun i _ => hs.length - (intOf i).toNat)
    case atStart => exact ⟨0, Nat.zero_le _, rfl, fun t ht => absurd ht (by omega), Below.refl _ _⟩
    case round =>
      obtain ⟨j, hj, rfl, hno, hbr⟩ := hrel
      by_cases hlt : j < hs.length
      · obtain ⟨g, off, hA, c0, c1⟩ := HH.out j hlt wr hbr
        obtain ⟨s1, s2⟩ := HS.out j hlt
        have HN : (Mm.hitB (hs.getD j (0, 0)) a k = true → Mm.hits hs a k = true) := Mm.hits_some hlt
        have HJ : Hid (Mm.hitB (hs.getD j (0, 0)) a k = (decide ((hs.getD j (0, 0)).1 < (hs.getD j (0, 0)).2) && (decide ((hs.getD j (0, 0)).1 ≤ a + k - 1) && decide (a < (hs.getD j (0, 0)).2)))) := rfl
        have HO := Lib.hid hno
        have HB := Lib.hid hbr
        have HNN := Lib.hid HN
        subst hA
        have HW := hbr.size
        clear hno hbr HN
        generalize hh : hs.getD j (0, 0) = h at *
        have hh' := Lib.hid hh
        clear hh
        obtain ⟨p, q⟩ := h
        dsimp only at c0 c1 s1 s2 HJ
        by_cases y1 : (p : Int) < q
        · by_cases y2 : (p : Int) ≤ (a : Int) + ((k : Int) - 1)
          · by_cases y3 : (a : Int) < q
            · go_wp2
              go_ret
              exact ⟨mret_int (by rw [HA.out, if_pos (HNN.out (by rw [HJ.out]; simp; omega))]), (HB.out.alloc HW _)⟩
            · go_wp2
              go_roundw
              case rel => exact ⟨j + 1, by omega, by go_num, fun t ht => by
                by_cases e : t = j
                · subst e; rw [hh'.out, HJ.out]; simp; omega
                · exact HO.out t (by omega), HB.out.alloc HW _⟩
              case measure => simp [intOf]; omega
          · go_wp2
            go_roundw
            case rel => exact ⟨j + 1, by omega, by go_num, fun t ht => by
              by_cases e : t = j
              · subst e; rw [hh'.out, HJ.out]; simp; omega
              · exact HO.out t (by omega), HB.out.alloc HW _⟩
            case measure => simp [intOf]; omega
        · go_wp2
          go_roundw
          case rel => exact ⟨j + 1, by omega, by go_num, fun t ht => by
            by_cases e : t = j
            · subst e; rw [hh'.out, HJ.out]; simp; omega
            · exact HO.out t (by omega), HB.out.alloc HW _⟩
          case measure => simp [intOf]; omega
      · obtain rfl : j = hs.length := by omega
        have HF := Lib.hid (Mm.hits_none hno)
        clear hno
        go_wp2
        go_ret
        exact ⟨mret_int (by rw [HA.out, HF.out]; rfl), hbr⟩

theorem ask_own (w : World) (gm gb : Nat) (b : List UInt8) (hs : List (Nat × Nat)) (a : Nat) (n : Int) (ha : a < 4294967296) (h : OwnM w gm gb b hs) :
    Calls Try.prog 69 #[.pointer (some ⟨gm, 0, none⟩), .int .u32 a, .int .i64 n] w fun e w' => e = .returned (.int .i64 (Mm.ask b.length hs a n)) ∧ Below w.heap.size w w' := by
  by_cases hn : n = 1 ∨ n = 2 ∨ n = 4
  · obtain ⟨k, rfl⟩ := Int.eq_ofNat_of_zero_le (show 0 ≤ n by omega)
    have e : Mm.ask b.length hs a k = Mm.askB b.length hs a k := by
      unfold Mm.ask Mm.askB; rw [if_neg (fun h => h hn), Int.toNat_natCast]
    rw [e]
    exact ask_wide w gm gb b hs a k ha h (by omega)
  · have e : Mm.ask b.length hs a n = 1 := by unfold Mm.ask; rw [if_pos hn]
    rw [e]
    obtain ⟨A, c, cap, c0, c1, -⟩ := h.cells
    exact (ask_arg w gm gb _ _ a n ha c0 (by omega) (by omega) (by omega)).mono fun e w' ⟨h1, h2⟩ => ⟨h1, h2 ▸ Below.refl _ _⟩
theorem OwnM.kept {w w' : World} {gm gb : Nat} {b : List UInt8} {hs : List (Nat × Nat)} (h : OwnM w gm gb b hs) (hb : Below w.heap.size w w') : OwnM w' gm gb b hs := by
  obtain ⟨hv, cap, h1, h2, h3, h4, h5⟩ := h.obj
  exact ⟨⟨hv, cap, h1.kept hb, h2.kept hb, h3, h4.kept hb, h5⟩, h.lo, h.hi, h.few, h.small⟩
/-- The object's holes do not lie in block g. -/
def OffM (w : World) (t : TypeId) (gm g : Nat) : Prop := ∀ x hv, Bk w gm t #[x, hv] → Off hv g
theorem OffM.same {w w' : World} {t : TypeId} {gm g : Nat} (h : OffM w t gm g) (e : w'.heap[gm]? = w.heap[gm]?) : OffM w' t gm g := fun x hv hb => h x hv (e.symm.trans hb)
/-- Another block was written. -/
theorem OwnM.but {w w' : World} {gm gb g : Nat} {b : List UInt8} {hs : List (Nat × Nat)} (h : OwnM w gm gb b hs) (hb : But g w w') (h1 : gm ≠ g) (h2 : gb ≠ g) (h3 : OffM w 68 gm g) : OwnM w' gm gb b hs := by
  obtain ⟨hv, cap, k1, k2, k3, k4, k5⟩ := h.obj
  exact ⟨⟨hv, cap, hb.bk k1 h1, k2.but hb h2, k3, k4.but hb (h3 _ hv k1), k5⟩, h.lo, h.hi, h.few, h.small⟩
/-- Its own bytes were written. -/
theorem OwnM.wrote {w w' : World} {gm gb : Nat} {b b' : List UInt8} {hs : List (Nat × Nat)} (h : OwnM w gm gb b hs) (hb : But gb w w') (hl : b'.length = b.length) (hd : ∀ cap, Rw w gb 5 cap b → Rw w' gb 5 cap b') : OwnM w' gm gb b' hs := by
  obtain ⟨hv, cap, k1, k2, k3, k4, k5⟩ := h.obj
  have hne : gm ≠ gb := k2.ne k1 (by decide)
  exact ⟨⟨hv, cap, by rw [hl]; exact hb.bk k1 hne, hd cap k2, k3, k4.but hb k5, k5⟩, by rw [hl]; exact h.lo, by rw [hl]; exact h.hi, h.few, h.small⟩
theorem Rw.uniq {w : World} {g cap cap' : Nat} {t : TypeId} {b b' : List UInt8} (h : Rw w g t cap b) (h' : Rw w g t cap' b') : cap = cap' := by
  obtain ⟨cur, h1, h2, _⟩ := h
  obtain ⟨cur', h1', h2', _⟩ := h'
  have := (h1.uniq h1').2
  have e : cur = cur' := by simpa using this
  rw [← h2, ← h2', e]
theorem Mm.ask_ok {len : Nat} {hs : List (Nat × Nat)} {a : Nat} {n : Int} (h : Mm.ask len hs a n = 0) : ∃ k : Nat, n = k ∧ (k = 1 ∨ k = 2 ∨ k = 4) ∧ a + k ≤ len ∧ a % k = 0 ∧ Mm.hits hs a k = false := by
  unfold Mm.ask at h
  split at h
  · omega
  next h1 =>
    split at h
    · omega
    next h2 =>
      split at h
      · omega
      next h3 =>
        split at h
        · omega
        next h4 =>
          refine ⟨n.toNat, by omega, by omega, by omega, by omega, by simpa using h4⟩

end Go.Proofs.Ytijekhdndegdaaa
