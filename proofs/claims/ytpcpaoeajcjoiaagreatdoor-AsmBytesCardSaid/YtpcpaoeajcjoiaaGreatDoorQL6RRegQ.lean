/- Texts joined, what is not reached left out. -/
import Derived.Test.YtpcpaoeajcjoiaaGreatDoorKU
import Derived.Test.YtpcpaoeajcjoiaaGreatDoorQL6RNumQ
/- The document's side: Register; the program's register is the document's. -/
namespace Go.Proofs.YtpcpaoeajcjoiaaGreatDoor
open Go.RowKit Kit
set_option linter.unusedVariables false
set_option linter.unusedSimpArgs false

def L6.decD (n : Nat) : List UInt8 := if n < 10 then [UInt8.ofNat (48 + n)] else [UInt8.ofNat (48 + n / 10), UInt8.ofNat (48 + n % 10)]
theorem L6.dec_small {n : Nat} (h : n < 100) : Lib.decDigits n = L6.decD n := by
  unfold L6.decD
  by_cases h1 : n < 10
  · unfold Lib.decDigits; rw [dif_pos h1, if_pos h1]
  · unfold Lib.decDigits
    rw [dif_neg h1, if_neg h1]
    unfold Lib.decDigits
    rw [dif_pos (by omega)]
    rfl
def L6.aName (i : Nat) : List UInt8 := match i with
  | 0 => [122, 101, 114, 111] | 1 => [114, 97] | 2 => [115, 112] | 3 => [103, 112] | 4 => [116, 112]
  | i => if i < 8 then 116 :: L6.decD (i - 5) else if i < 10 then 115 :: L6.decD (i - 8) else if i < 18 then 97 :: L6.decD (i - 10) else if i < 28 then 115 :: L6.decD (i - 16) else 116 :: L6.decD (i - 25)
def L6.xName (i : Nat) : List UInt8 := 120 :: L6.decD i
def L6.isNamed (l : List UInt8) (i : Nat) : Bool := l == L6.aName i || l == L6.xName i
/-- Where a name stands; 32: nowhere. -/
def L6.regAt (l : List UInt8) : Nat := (List.range 32).findIdx (L6.isNamed l)
def L6.rregV (l : List UInt8) : Nat × Bool := if L6.regAt l < 32 then (L6.regAt l, true) else (0, false)
theorem L6.rreg_yes {l : List UInt8} {k : Nat} (hk : k < 32) (h : L6.isNamed l k = true) (hno : ∀ j, j < k → L6.isNamed l j = false) : L6.rregV l = (k, true) := by
  have : L6.regAt l = k := by
    unfold L6.regAt
    rw [List.findIdx_eq (by simpa using hk)]
    exact ⟨by simpa using h, fun j hj => by simpa using hno j hj⟩
  unfold L6.rregV
  rw [this, if_pos hk]
theorem L6.rreg_no {l : List UInt8} (hno : ∀ j, j < 32 → L6.isNamed l j = false) : L6.rregV l = (0, false) := by
  have : L6.regAt l = 32 := by
    unfold L6.regAt
    rw [List.findIdx_eq_length_of_false]
    · simp
    · intro x hx
      have := hno x (by simpa using hx)
      simpa using this
  unfold L6.rregV
  rw [this, if_neg (by decide)]
theorem L6.digits_decD : ∀ n, n < 32 → L6.digitsV 10 (L6.decD n) = (n, true) := by decide +kernel
theorem L6.counted_decD {n : Nat} (h : n < 32) : L6.countedV (L6.decD n) = (n, true) := by
  unfold L6.countedV
  rw [L6.digits_decD n h, L6.dec_small (by omega)]
  simp
theorem L6.counted_is {t : List UInt8} {n : Nat} (h : L6.countedV t = (n, true)) : t = Lib.decDigits n := by
  unfold L6.countedV at h
  simp only [Prod.mk.injEq, Bool.and_eq_true, beq_iff_eq] at h
  rw [← h.1]
  exact h.2.2.symm
theorem L6.regV_cons {c : UInt8} {t : List UInt8} (h1 : c :: t ≠ [122, 101, 114, 111]) (h2 : c :: t ≠ [114, 97]) (h3 : c :: t ≠ [115, 112]) (h4 : c :: t ≠ [103, 112]) (h5 : c :: t ≠ [116, 112]) :
    L6.regV (c :: t) = cond (L6.countedV t).2 (L6.rowsV c (L6.countedV t).1) (0, false) := by
  unfold L6.regV
  simp only [h1, h2, h3, h4, h5, if_false, List.cons_ne_nil, List.tail_cons, List.headD_cons]
theorem L6.reg_row (c : UInt8) (n : Nat) (hn : n < 32) (h1 : c :: L6.decD n ≠ [122, 101, 114, 111]) (h2 : c :: L6.decD n ≠ [114, 97]) (h3 : c :: L6.decD n ≠ [115, 112]) (h4 : c :: L6.decD n ≠ [103, 112]) (h5 : c :: L6.decD n ≠ [116, 112]) :
    L6.regV (c :: L6.decD n) = L6.rowsV c n := by
  rw [L6.regV_cons h1 h2 h3 h4 h5, L6.counted_decD hn]
  rfl
theorem L6.decD_ne : ∀ n, n < 32 → L6.decD n ≠ [101, 114, 111] ∧ L6.decD n ≠ [97] ∧ L6.decD n ≠ [112] := by decide +kernel
theorem L6.reg_row' (c : UInt8) (n : Nat) (hn : n < 32) : L6.regV (c :: L6.decD n) = L6.rowsV c n := by
  obtain ⟨a, b, d⟩ := L6.decD_ne n hn
  refine L6.reg_row c n hn ?_ ?_ ?_ ?_ ?_ <;> (intro e; injection e with e1 e2) <;> first | exact a e2 | exact b e2 | exact d e2
theorem L6.reg_a : ∀ i, i < 32 → L6.regV (L6.aName i) = (i, true) := by
  intro i hi
  match i with
  | 0 => rfl
  | 1 => rfl
  | 2 => rfl
  | 3 => rfl
  | 4 => rfl
  | i + 5 =>
    unfold L6.aName
    simp only
    split
    · rw [L6.reg_row' _ _ (by omega)]
      unfold L6.rowsV
      rw [if_neg (fun h => absurd h.1 (by decide)), if_pos ⟨rfl, by omega⟩]
      simp; omega
    · split
      · rw [L6.reg_row' _ _ (by omega)]
        unfold L6.rowsV
        rw [if_neg (fun h => absurd h.1 (by decide)), if_neg (fun h => absurd h.1 (by decide)), if_neg (fun h => absurd h.1 (by decide)), if_pos ⟨rfl, by omega⟩]
        simp; omega
      · split
        · rw [L6.reg_row' _ _ (by omega)]
          unfold L6.rowsV
          rw [if_neg (fun h => absurd h.1 (by decide)), if_neg (fun h => absurd h.1 (by decide)), if_neg (fun h => absurd h.1 (by decide)), if_neg (fun h => absurd h.1 (by decide)), if_neg (fun h => absurd h.1 (by decide)), if_pos ⟨rfl, by omega⟩]
          simp; omega
        · split
          · rw [L6.reg_row' _ _ (by omega)]
            unfold L6.rowsV
            rw [if_neg (fun h => absurd h.1 (by decide)), if_neg (fun h => absurd h.1 (by decide)), if_neg (fun h => absurd h.1 (by decide)), if_neg (by rintro ⟨_, h⟩; omega), if_pos ⟨rfl, by omega⟩]
            simp; omega
          · rw [L6.reg_row' _ _ (by omega)]
            unfold L6.rowsV
            rw [if_neg (fun h => absurd h.1 (by decide)), if_neg (by rintro ⟨_, h⟩; omega), if_pos ⟨rfl, by omega⟩]
            simp; omega
theorem L6.reg_x : ∀ i, i < 32 → L6.regV (L6.xName i) = (i, true) := by
  intro i hi
  unfold L6.xName
  rw [L6.reg_row' _ _ hi]
  unfold L6.rowsV
  rw [if_pos ⟨rfl, hi⟩]
theorem L6.reg_of_named {l : List UInt8} {i : Nat} (hi : i < 32) (h : L6.isNamed l i = true) : L6.regV l = (i, true) := by
  unfold L6.isNamed at h
  rw [Bool.or_eq_true, beq_iff_eq, beq_iff_eq] at h
  rcases h with rfl | rfl
  · exact L6.reg_a i hi
  · exact L6.reg_x i hi
/-- What is a register has a name. -/
theorem L6.named_of_reg {l : List UInt8} {i : Nat} (h : L6.regV l = (i, true)) : i < 32 ∧ L6.isNamed l i = true := by
  by_cases h0 : l = []
  · subst h0; cases h
  by_cases h1 : l = [122, 101, 114, 111]
  · subst h1; cases h; decide
  by_cases h2 : l = [114, 97]
  · subst h2; cases h; decide
  by_cases h3 : l = [115, 112]
  · subst h3; cases h; decide
  by_cases h4 : l = [103, 112]
  · subst h4; cases h; decide
  by_cases h5 : l = [116, 112]
  · subst h5; cases h; decide
  cases l with
  | nil => exact absurd rfl h0
  | cons c t =>
    rw [L6.regV_cons h1 h2 h3 h4 h5] at h
    obtain ⟨n, o, hc⟩ : ∃ n o, L6.countedV t = (n, o) := ⟨_, _, rfl⟩
    rw [hc] at h
    cases o with
    | false => cases h
    | true =>
      have ht := L6.counted_is hc
      have hr : L6.rowsV c n = (i, true) := h
      clear h
      unfold L6.rowsV at hr
      unfold L6.isNamed
      rw [Bool.or_eq_true, beq_iff_eq, beq_iff_eq]
      split at hr
      · rename_i k; obtain ⟨rfl, k⟩ := k
        cases hr
        exact ⟨k, .inr (by rw [ht, L6.dec_small (by omega)]; rfl)⟩
      · split at hr
        · rename_i k; obtain ⟨rfl, k⟩ := k
          cases hr
          refine ⟨by omega, .inl ?_⟩
          rw [ht, L6.dec_small (by omega), show 5 + n = n + 5 from by omega]
          unfold L6.aName
          simp only
          rw [if_pos (by omega)]
          congr 2
        · split at hr
          · rename_i k1 k; obtain ⟨rfl, k⟩ := k
            have k3 : ¬ n < 3 := fun h => k1 ⟨rfl, h⟩
            cases hr
            refine ⟨by omega, .inl ?_⟩
            rw [ht, L6.dec_small (by omega), show 25 + n = (20 + n) + 5 from by omega]
            unfold L6.aName
            simp only
            rw [if_neg (by omega), if_neg (by omega), if_neg (by omega), if_neg (by omega)]
            congr 2; omega
          · split at hr
            · rename_i k; obtain ⟨rfl, k⟩ := k
              cases hr
              refine ⟨by omega, .inl ?_⟩
              rw [ht, L6.dec_small (by omega), show 8 + n = (3 + n) + 5 from by omega]
              unfold L6.aName
              simp only
              rw [if_neg (by omega), if_pos (by omega)]
              congr 2; omega
            · split at hr
              · rename_i k1 k; obtain ⟨rfl, k⟩ := k
                have k3 : ¬ n < 2 := fun h => k1 ⟨rfl, h⟩
                cases hr
                refine ⟨by omega, .inl ?_⟩
                rw [ht, L6.dec_small (by omega), show 16 + n = (11 + n) + 5 from by omega]
                unfold L6.aName
                simp only
                rw [if_neg (by omega), if_neg (by omega), if_neg (by omega), if_pos (by omega)]
                congr 2; omega
              · split at hr
                · rename_i k; obtain ⟨rfl, k⟩ := k
                  cases hr
                  refine ⟨by omega, .inl ?_⟩
                  rw [ht, L6.dec_small (by omega), show 10 + n = (5 + n) + 5 from by omega]
                  unfold L6.aName
                  simp only
                  rw [if_neg (by omega), if_neg (by omega), if_pos (by omega)]
                  congr 2; omega
                · cases hr
theorem L6.regV_false {l : List UInt8} (h : (L6.regV l).2 = false) : L6.regV l = (0, false) := by
  unfold L6.regV at h ⊢
  by_cases h0 : l = []
  · rw [if_pos h0]
  by_cases h1 : l = [122, 101, 114, 111]
  · subst h1; cases h
  by_cases h2 : l = [114, 97]
  · subst h2; cases h
  by_cases h3 : l = [115, 112]
  · subst h3; cases h
  by_cases h4 : l = [103, 112]
  · subst h4; cases h
  by_cases h5 : l = [116, 112]
  · subst h5; cases h
  simp only [h0, h1, h2, h3, h4, h5, if_false] at h ⊢
  cases hc : (L6.countedV l.tail).2
  · rfl
  · rw [hc] at h
    simp only [cond_true] at h ⊢
    unfold L6.rowsV at h ⊢
    repeat (split at h; · cases h)
    rename_i a b c d e f
    rw [if_neg a, if_neg b, if_neg c, if_neg d, if_neg e, if_neg f]
theorem L6.reg_same (l : List UInt8) : L6.rregV l = L6.regV l := by
  cases h : (L6.regV l).2
  · rw [L6.regV_false h]
    refine L6.rreg_no fun j hj => ?_
    cases hn : L6.isNamed l j
    · rfl
    · rw [L6.reg_of_named hj hn] at h; cases h
  · obtain ⟨i, o, hr⟩ : ∃ i o, L6.regV l = (i, o) := ⟨_, _, rfl⟩
    rw [hr] at h
    have h : o = true := h
    subst h
    obtain ⟨hi, hn⟩ := L6.named_of_reg hr
    rw [hr]
    refine L6.rreg_yes hi hn fun j hj => ?_
    cases hm : L6.isNamed l j
    · rfl
    · rw [L6.reg_of_named (by omega) hm] at hr
      cases hr
      omega
def L6.aCells : Array Value := #[.string ⟨#[122, 101, 114, 111]⟩, .string ⟨#[114, 97]⟩, .string ⟨#[115, 112]⟩, .string ⟨#[103, 112]⟩, .string ⟨#[116, 112]⟩, .string ⟨#[116, 48]⟩, .string ⟨#[116, 49]⟩, .string ⟨#[116, 50]⟩, .string ⟨#[115, 48]⟩, .string ⟨#[115, 49]⟩, .string ⟨#[97, 48]⟩, .string ⟨#[97, 49]⟩, .string ⟨#[97, 50]⟩, .string ⟨#[97, 51]⟩, .string ⟨#[97, 52]⟩, .string ⟨#[97, 53]⟩, .string ⟨#[97, 54]⟩, .string ⟨#[97, 55]⟩, .string ⟨#[115, 50]⟩, .string ⟨#[115, 51]⟩, .string ⟨#[115, 52]⟩, .string ⟨#[115, 53]⟩, .string ⟨#[115, 54]⟩, .string ⟨#[115, 55]⟩, .string ⟨#[115, 56]⟩, .string ⟨#[115, 57]⟩, .string ⟨#[115, 49, 48]⟩, .string ⟨#[115, 49, 49]⟩, .string ⟨#[116, 51]⟩, .string ⟨#[116, 52]⟩, .string ⟨#[116, 53]⟩, .string ⟨#[116, 54]⟩]
theorem L6.aCells_at : ∀ k, k < 32 → L6.aCells[k]? = some (.string ⟨(L6.aName k).toArray⟩)
  | 0, _ => rfl
  | 1, _ => rfl
  | 2, _ => rfl
  | 3, _ => rfl
  | 4, _ => rfl
  | 5, _ => rfl
  | 6, _ => rfl
  | 7, _ => rfl
  | 8, _ => rfl
  | 9, _ => rfl
  | 10, _ => rfl
  | 11, _ => rfl
  | 12, _ => rfl
  | 13, _ => rfl
  | 14, _ => rfl
  | 15, _ => rfl
  | 16, _ => rfl
  | 17, _ => rfl
  | 18, _ => rfl
  | 19, _ => rfl
  | 20, _ => rfl
  | 21, _ => rfl
  | 22, _ => rfl
  | 23, _ => rfl
  | 24, _ => rfl
  | 25, _ => rfl
  | 26, _ => rfl
  | 27, _ => rfl
  | 28, _ => rfl
  | 29, _ => rfl
  | 30, _ => rfl
  | 31, _ => rfl
  | n + 32, h => absurd h (by omega)
def L6.xCells : Array Value := #[.string ⟨#[120, 48]⟩, .string ⟨#[120, 49]⟩, .string ⟨#[120, 50]⟩, .string ⟨#[120, 51]⟩, .string ⟨#[120, 52]⟩, .string ⟨#[120, 53]⟩, .string ⟨#[120, 54]⟩, .string ⟨#[120, 55]⟩, .string ⟨#[120, 56]⟩, .string ⟨#[120, 57]⟩, .string ⟨#[120, 49, 48]⟩, .string ⟨#[120, 49, 49]⟩, .string ⟨#[120, 49, 50]⟩, .string ⟨#[120, 49, 51]⟩, .string ⟨#[120, 49, 52]⟩, .string ⟨#[120, 49, 53]⟩, .string ⟨#[120, 49, 54]⟩, .string ⟨#[120, 49, 55]⟩, .string ⟨#[120, 49, 56]⟩, .string ⟨#[120, 49, 57]⟩, .string ⟨#[120, 50, 48]⟩, .string ⟨#[120, 50, 49]⟩, .string ⟨#[120, 50, 50]⟩, .string ⟨#[120, 50, 51]⟩, .string ⟨#[120, 50, 52]⟩, .string ⟨#[120, 50, 53]⟩, .string ⟨#[120, 50, 54]⟩, .string ⟨#[120, 50, 55]⟩, .string ⟨#[120, 50, 56]⟩, .string ⟨#[120, 50, 57]⟩, .string ⟨#[120, 51, 48]⟩, .string ⟨#[120, 51, 49]⟩]
theorem L6.xCells_at : ∀ k, k < 32 → L6.xCells[k]? = some (.string ⟨(L6.xName k).toArray⟩)
  | 0, _ => rfl
  | 1, _ => rfl
  | 2, _ => rfl
  | 3, _ => rfl
  | 4, _ => rfl
  | 5, _ => rfl
  | 6, _ => rfl
  | 7, _ => rfl
  | 8, _ => rfl
  | 9, _ => rfl
  | 10, _ => rfl
  | 11, _ => rfl
  | 12, _ => rfl
  | 13, _ => rfl
  | 14, _ => rfl
  | 15, _ => rfl
  | 16, _ => rfl
  | 17, _ => rfl
  | 18, _ => rfl
  | 19, _ => rfl
  | 20, _ => rfl
  | 21, _ => rfl
  | 22, _ => rfl
  | 23, _ => rfl
  | 24, _ => rfl
  | 25, _ => rfl
  | 26, _ => rfl
  | 27, _ => rfl
  | 28, _ => rfl
  | 29, _ => rfl
  | 30, _ => rfl
  | 31, _ => rfl
  | n + 32, h => absurd h (by omega)
set_option maxRecDepth 100000 in
set_option maxHeartbeats 2000000 in
theorem rreg_any (l : List UInt8) (w : World) : Calls Tryz.prog 223 #[.string ⟨l.toArray⟩] w fun e w' => e = .returned (.tuple #[.int .i64 (L6.rregV l).1, .bool (L6.rregV l).2]) ∧ Below w.heap.size w w' := by
  have HY := Lib.hid (fun (k : Nat) hk h hno => L6.rreg_yes (l := l) (k := k) hk h hno)
  have HNO := Lib.hid (fun hno => L6.rreg_no (l := l) hno)
  go_enter Tryz.func223, Tryz.ntmps223
  go_upto_region 1 with fail
  go_cut [4] (fun s wx => s = .slice (some ⟨w.heap.size, 0, none⟩) 32 32 ∧ wx = w.alloc (.cells L6.aCells 9))
  case first =>
    go_wp2_with fail
    go_meet
    exact ⟨rfl, rfl⟩
  case rest =>
    obtain ⟨rfl, hw1⟩ := hcut
    have hb1 : Below w.heap.size w wc := by rw [hw1]; exact (Below.refl _ _).alloc (Nat.le_refl _) _
    have hz1 : w.heap.size < wc.heap.size := by rw [hw1]; simp
    have hc1 : ∀ k, k < 32 → wc.cell? ⟨w.heap.size, k, none⟩ = some (.string ⟨(L6.aName k).toArray⟩) := fun k hk => by
      rw [hw1, World.cell?_alloc_at _ _ _ _ rfl]; exact L6.aCells_at k hk
    have HB1 := Lib.hid hb1
    have HC1 := Lib.hid hc1
    clear hb1 hc1 hw1
    go_upto_region 2 with fail
    go_cut [5] (fun s wx => ∃ g, s = .slice (some ⟨g, 0, none⟩) 32 32 ∧ Below w.heap.size w wx ∧ (∀ k, k < 32 → wx.cell? ⟨w.heap.size, k, none⟩ = some (.string ⟨(L6.aName k).toArray⟩)) ∧ ∀ k, k < 32 → wx.cell? ⟨g, k, none⟩ = some (.string ⟨(L6.xName k).toArray⟩))
    case first =>
      have hb2 : Below wc.heap.size wc (wc.alloc (.cells L6.xCells 9)) := (Below.refl _ _).alloc (Nat.le_refl _) _
      have HF := Lib.hid (show Below w.heap.size w (wc.alloc (.cells L6.xCells 9)) ∧ (∀ k, k < 32 → (wc.alloc (.cells L6.xCells 9)).cell? ⟨w.heap.size, k, none⟩ = some (.string ⟨(L6.aName k).toArray⟩)) ∧ ∀ k, k < 32 → (wc.alloc (.cells L6.xCells 9)).cell? ⟨wc.heap.size, k, none⟩ = some (.string ⟨(L6.xName k).toArray⟩) from
        ⟨HB1.out.trans (hb2.mono HB1.out.size), fun k hk => (hb2.cell (p := ⟨w.heap.size, k, none⟩) hz1).trans (HC1.out k hk), fun k hk => by rw [World.cell?_alloc_at _ _ _ _ rfl]; exact L6.xCells_at k hk⟩)
      clear hb2
      go_wp2_with fail
      go_meet
      exact ⟨_, rfl, HF.out⟩
    case rest =>
      clear hz1 HB1 HC1
      obtain ⟨g, rfl, hb2, ha, hx⟩ := hcut
      have HB2 := Lib.hid hb2
      have HA := Lib.hid ha
      have HX := Lib.hid hx
      clear hb2 ha hx
      go_wp2_with fail
      go_loop [6] (fun i => ∃ k : Nat, i = .int .i64 (k : Int) ∧ k ≤ 32 ∧ ∀ j, j < k → L6.isNamed l j = false) (fun i => 32 - (intOf i).toNat)
      case atStart => exact ⟨0, rfl, by omega, fun j hj => absurd hj (by omega)⟩
      case round =>
        obtain ⟨k, rfl, hk, hno⟩ := hrel
        have HN := Lib.hid hno
        clear hno
        by_cases hlt : k < 32
        · have hlt' : (k : Int) < 32 := by omega
          have hw1 : IntKind.i64.wrap ((k : Int) + 1) = (k : Int) + 1 := by rw [IntKind.wrap_i64]; omega
          have c1 := HA.out k hlt
          have c2 := HX.out k hlt
          have HR := Lib.hid (show ∀ b, L6.isNamed l k = b → b = true → L6.rregV l = (k, true) from fun b h1 h2 => HY.out k hlt (h1.trans h2) HN.out)
          have HNM := Lib.hid (show L6.isNamed l k = (l == L6.aName k || l == L6.xName k) from rfl)
          generalize L6.aName k = a at *
          generalize L6.xName k = x at *
          cases h1 : (l == a)
          · cases h2 : (l == x)
            · have HE := Lib.hid (show L6.isNamed l k = false from HNM.out.trans (by rw [h1, h2]; rfl))
              go_wp2_with fail
              go_round
              case rel =>
                refine ⟨k + 1, by simp, by omega, fun j hj => ?_⟩
                by_cases e : j = k
                · rw [e]; exact HE.out
                · exact HN.out j (by omega)
              case measure => simp [intOf]; omega
            · have HE := Lib.hid (HR.out _ HNM.out (by rw [h1, h2]; rfl))
              go_wp2_with fail
              go_ret2
              exact ⟨lret_ib (by rw [HE.out]) (by rw [HE.out]), HB2.out⟩
          · have HE := Lib.hid (HR.out _ HNM.out (by rw [h1]; rfl))
            go_wp2_with fail
            go_ret2
            exact ⟨lret_ib (by rw [HE.out]) (by rw [HE.out]), HB2.out⟩
        · obtain rfl : k = 32 := by omega
          have HR := Lib.hid (HNO.out HN.out)
          go_wp2_with fail
          go_ret2
          exact ⟨lret_ib (by rw [HR.out]; rfl) (by rw [HR.out]), HB2.out⟩
end Go.Proofs.YtpcpaoeajcjoiaaGreatDoor
