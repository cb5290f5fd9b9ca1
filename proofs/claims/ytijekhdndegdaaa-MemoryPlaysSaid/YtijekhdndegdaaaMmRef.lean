/- The document's memory: what it is in memory; walks of its ask, Read, Write, Bytes, Put, New. -/
import Derived.Test.YtijekhdndegdaaaMmOpen
import Derived.Test.YtijekhdndegdaaaMmNil
namespace Go.Proofs.Ytijekhdndegdaaa
open Go.RowKit Kit
set_option linter.unusedVariables false
set_option linter.unusedSimpArgs false

/-- The object at block gr is the document's memory of these bytes (in block gb) and holes. -/
structure RefM (w : World) (gr gb : Nat) (b : List UInt8) (hs : List (Nat × Nat)) : Prop where
  obj : ∃ hv cap, Bk w gr 65 #[.slice (some ⟨gb, 0, none⟩) b.length cap, hv] ∧ Rw w gb 5 cap b ∧ cap ≤ maxLen ∧ Rd w 2 hv hs.length (Mm.hc hs) ∧ Off hv gb
  lo : 4 ≤ b.length
  hi : b.length ≤ 1048576
  few : hs.length ≤ 16
  small : ∀ j, j < hs.length → (hs.getD j (0, 0)).1 < 4294967296 ∧ (hs.getD j (0, 0)).2 < 4294967296
theorem RefM.cells {w : World} {gr gb : Nat} {b : List UInt8} {hs : List (Nat × Nat)} (h : RefM w gr gb b hs) :
    ∃ A c cap, w.cell? ⟨gr, 0, none⟩ = some (.slice (some ⟨gb, 0, none⟩) b.length cap) ∧ w.cell? ⟨gr, 1, none⟩ = some (.slice A hs.length c) ∧ Rw w gb 5 cap b ∧ cap ≤ maxLen ∧ gr < w.heap.size ∧ gr ≠ gb ∧
      ∀ j, j < hs.length → ∃ g off, A = some ⟨g, off, none⟩ ∧ w.cell? ⟨g, off + j * 2, none⟩ = some (.int .u32 (hs.getD j (0, 0)).1) ∧ w.cell? ⟨g, off + j * 2 + 1, none⟩ = some (.int .u32 (hs.getD j (0, 0)).2) := by
  obtain ⟨hv, cap, h1, h2, h3, h4, _⟩ := h.obj
  obtain ⟨A, c, rfl⟩ := h4.form
  refine ⟨A, c, cap, h1.cell 0, h1.cell 1, h2, h3, h1.lt, h2.ne h1 (by decide), fun j hj => ?_⟩
  obtain ⟨_, A', c', e, _, _, k4⟩ := h4
  obtain ⟨g, off, rfl, hg, hc⟩ := k4 (by omega)
  injection e with e
  exact ⟨g, off, e, hc _ _ (Mm.hc_at hs j hj).1, by have := hc _ _ (Mm.hc_at hs j hj).2; rwa [← Nat.add_assoc] at this⟩

theorem rask_arg (w : World) (p : Value) (a : Nat) (k : Int) (ha : a < 4294967296) (h1 : k ≠ 1) (h2 : k ≠ 2) (h4 : k ≠ 4) :
    Calls Try.prog 97 #[p, .int .u32 a, .int .i64 k] w fun e w' => e = .returned (.int .i64 1) ∧ w = w' := by
  have g1 : (k != 1) = true := by simpa using h1
  have g2 : (k != 2) = true := by simpa using h2
  have g4 : (k != 4) = true := by simpa using h4
  clear h1 h2 h4
  go_enter Try.func97, Try.ntmps97
  go_wp2
  go_ret
  exact ⟨rfl, rfl⟩

/-- One place: is it shut? -/
def Mm.shut (h : Nat × Nat) (i : Nat) : Bool := decide (h.1 ≤ i) && decide (i < h.2)
theorem Mm.hits_shut {hs : List (Nat × Nat)} {a k i j : Nat} (hi : a ≤ i) (hi2 : i < a + k) (hj : j < hs.length) (h : Mm.shut (hs.getD j (0, 0)) i = true) : Mm.hits hs a k = true := by
  refine (Mm.hits_iff hs a k (by omega)).2 ⟨i, hi, hi2, hs[j], List.getElem_mem hj, ?_⟩
  rw [List.getD_eq_getElem?_getD, List.getElem?_eq_getElem hj] at h
  simpa [Mm.shut] using h
theorem Mm.no_hits {hs : List (Nat × Nat)} {a k : Nat} (hk : 0 < k) (h : ∀ i, a ≤ i → i < a + k → ∀ j, j < hs.length → Mm.shut (hs.getD j (0, 0)) i = false) : Mm.hits hs a k = false := by
  cases hh : Mm.hits hs a k
  · rfl
  · obtain ⟨i, h1, h2, x, hx, h3⟩ := (Mm.hits_iff hs a k hk).1 hh
    obtain ⟨j, hj, rfl⟩ := List.mem_iff_getElem.1 hx
    have := h i h1 h2 j hj
    rw [List.getD_eq_getElem?_getD, List.getElem?_eq_getElem hj] at this
    simp [Mm.shut] at this
    omega

set_option maxRecDepth 20000 in
set_option maxHeartbeats 2000000 in
theorem rask_wide (w : World) (gr gb : Nat) (b : List UInt8) (hs : List (Nat × Nat)) (a k : Nat) (ha : a < 4294967296) (h : RefM w gr gb b hs) (hk : k = 1 ∨ k = 2 ∨ k = 4) :
    Calls Try.prog 97 #[.pointer (some ⟨gr, 0, none⟩), .int .u32 a, .int .i64 k] w fun e w' => e = .returned (.int .i64 (Mm.askB b.length hs a k)) ∧ w = w' := by
  obtain ⟨A, c, cap, c0, c1, -, -, -, -, hH⟩ := h.cells
  have HH := Lib.hid hH
  have HS := Lib.hid h.small
  have hhi := h.hi
  have hfew := h.few
  have hlo := h.lo
  clear h hH
  have hk1 : (1 : Int) ≤ k := by omega
  have hk2 : (k : Int) ≤ 4 := by omega
  have hai : (a : Int) < 4294967296 := by omega
  have gs : ((k : Int) != 1) = false ∨ (((k : Int) != 1) = true ∧ ((k : Int) != 2) = false) ∨ (((k : Int) != 1) = true ∧ ((k : Int) != 2) = true ∧ ((k : Int) != 4) = false) := by
    rcases hk with rfl | rfl | rfl <;> simp
  have HA : Hid (Mm.askB b.length hs a k = if a % k ≠ 0 then 31 else if b.length < a + k then 30 else if Mm.hits hs a k = true then 30 else 0) := rfl
  have hX : (((a : Int) % (k : Int)) != 0) = decide (a % k ≠ 0) := by
    rw [← Int.natCast_emod, Bool.eq_iff_iff]; simp; omega
  clear hk
  by_cases x1 : a % k ≠ 0
  · rw [if_pos x1] at HA
    have hX1 : (((a : Int) % (k : Int)) != 0) = true := by rw [hX]; simpa using x1
    clear hX x1
    generalize Mm.askB b.length hs a k = R at *
    generalize b.length = len at *
    rcases gs with g1 | ⟨g1, g2⟩ | ⟨g1, g2, g3⟩
    all_goals
      go_enter Try.func97, Try.ntmps97
      go_wp2_with fail
      go_ret
      exact ⟨mret_int HA.out.symm, rfl⟩
  rw [if_neg x1] at HA
  have hX1 : (((a : Int) % (k : Int)) != 0) = false := by rw [hX]; simpa using x1
  clear hX x1
  have H30 := Lib.hid (show (b.length < a + k ∨ Mm.hits hs a k = true) → Mm.askB b.length hs a k = 30 from fun hh => by
    rw [HA.out]
    split
    · rfl
    · rcases hh with hh | hh
      · omega
      · rw [if_pos hh])
  have H0 := Lib.hid (show a + k ≤ b.length → Mm.hits hs a k = false → Mm.askB b.length hs a k = 0 from fun h1 h2 => by
    rw [HA.out, if_neg (by omega), h2]; rfl)
  clear HA
  generalize Mm.askB b.length hs a k = R at *
  generalize b.length = len at *
  have hli : (len : Int) ≤ 1048576 := by omega
  have hni : (hs.length : Int) ≤ 16 := by omega
  rcases gs with g1 | ⟨g1, g2⟩ | ⟨g1, g2, g3⟩
  all_goals
    go_enter Try.func97, Try.ntmps97
    go_wp2_with fail
    clear hX1
    go_loop [7] (fun x => ∃ i : Nat, a ≤ i ∧ i ≤ a + k ∧ (i ≤ len ∨ i = a) ∧ x = .int .i64 i ∧ ∀ i', a ≤ i' → i' < i → ∀ j, j < hs.length → Mm.shut (hs.getD j (0, 0)) i' = false) (fun x => a + k - (intOf x).toNat)
    case atStart => exact ⟨a, Nat.le_refl _, by omega, .inr rfl, rfl, fun i' h1 h2 => by omega⟩
    case round =>
      obtain ⟨i, i1, i2, i3, rfl, hno⟩ := hrel
      have HNO := Lib.hid hno
      have HI3 := Lib.hid i3
      clear hno i3
      by_cases hlt : i < a + k
      · have hlti : (i : Int) < (a : Int) + k := by omega
        by_cases hlen : i < len
        · have hleni : decide (len ≤ i) = false := by simp; omega
          clear hhi hlo
          go_wp2_with fail
          go_loop [8] (fun x => ∃ j : Nat, j ≤ hs.length ∧ x = .int .i64 j ∧ ∀ j', j' < j → Mm.shut (hs.getD j' (0, 0)) i = false) (fun x => hs.length - (intOf x).toNat)
          case atStart => exact ⟨0, Nat.zero_le _, rfl, fun j' hj' => by omega⟩
          case round =>
            obtain ⟨j, hj, rfl, hn2⟩ := hrel
            have HN2 := Lib.hid hn2
            clear hn2
            by_cases hjl : j < hs.length
            · obtain ⟨g, off, hA, q0, q1⟩ := HH.out j hjl
              obtain ⟨s1, s2⟩ := HS.out j hjl
              subst hA
              have HSH := Lib.hid (fun (hh : Mm.shut (hs.getD j (0, 0)) i = true) => H30.out (.inr (Mm.hits_shut i1 hlt hjl hh)))
              generalize hh : hs.getD j (0, 0) = h at *
              have hh' := Lib.hid hh
              clear hh
              obtain ⟨p, q⟩ := h
              dsimp only at q0 q1 s1 s2
              have HSD : Hid (Mm.shut (p, q) i = (decide (p ≤ i) && decide (i < q))) := rfl
              have hji : (j : Int) < (hs.length : Int) := by omega
              by_cases y1 : (p : Int) ≤ (i : Int)
              · by_cases y2 : (i : Int) < (q : Int)
                · go_wp2
                  go_ret
                  exact ⟨mret_int (HSH.out (by rw [HSD.out]; simp; omega)).symm, rfl⟩
                · go_wp2
                  go_round
                  case rel => exact ⟨j + 1, by omega, by go_num, fun j' hj' => by
                    by_cases e : j' = j
                    · subst e; rw [hh'.out, HSD.out]; simp; omega
                    · exact HN2.out j' (by omega)⟩
                  case measure => simp [intOf]; omega
              · go_wp2
                go_round
                case rel => exact ⟨j + 1, by omega, by go_num, fun j' hj' => by
                  by_cases e : j' = j
                  · subst e; rw [hh'.out, HSD.out]; simp; omega
                  · exact HN2.out j' (by omega)⟩
                case measure => simp [intOf]; omega
            · obtain rfl : j = hs.length := by omega
              go_wp2
              go_round
              case rel => exact ⟨i + 1, by omega, by omega, .inl (by omega), by go_num, fun i' h1 h2 j hj => by
                by_cases e : i' = i
                · subst e; exact HN2.out j hj
                · exact HNO.out i' h1 (by omega) j hj⟩
              case measure => simp [intOf]; omega
        · have hleni : decide (len ≤ i) = true := by simp; omega
          clear hhi hlo
          go_wp2
          go_ret
          exact ⟨mret_int (H30.out (.inl (by omega))).symm, rfl⟩
      · obtain rfl : i = a + k := by omega
        have HF := Lib.hid (H0.out (by rcases HI3.out with h | h <;> omega) (Mm.no_hits (by omega) (fun i' h1 h2 j hj => HNO.out i' h1 h2 j hj)))
        go_wp2
        go_ret
        exact ⟨mret_int HF.out.symm, rfl⟩
theorem rask_own (w : World) (gr gb : Nat) (b : List UInt8) (hs : List (Nat × Nat)) (a : Nat) (n : Int) (ha : a < 4294967296) (h : RefM w gr gb b hs) :
    Calls Try.prog 97 #[.pointer (some ⟨gr, 0, none⟩), .int .u32 a, .int .i64 n] w fun e w' => e = .returned (.int .i64 (Mm.ask b.length hs a n)) ∧ w = w' := by
  by_cases hn : n = 1 ∨ n = 2 ∨ n = 4
  · obtain ⟨k, rfl⟩ := Int.eq_ofNat_of_zero_le (show 0 ≤ n by omega)
    have e : Mm.ask b.length hs a k = Mm.askB b.length hs a k := by
      unfold Mm.ask Mm.askB; rw [if_neg (fun h => h hn), Int.toNat_natCast]
    rw [e]
    exact rask_wide w gr gb b hs a k ha h (by omega)
  · have e : Mm.ask b.length hs a n = 1 := by unfold Mm.ask; rw [if_pos hn]
    rw [e]
    exact rask_arg w _ a n ha (by omega) (by omega) (by omega)
end Go.Proofs.Ytijekhdndegdaaa
