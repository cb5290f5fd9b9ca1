/- Layer 12: a line's words: next, upTo, alone. -/
import Derived.Test.YtfafdkbnmfpbmaaDoorXcMem
import Derived.Test.YtfafdkbnmfpbmaaDoorL6Bd
namespace Go.Proofs.YtfafdkbnmfpbmaaDoor
open Go.RowKit Kit
set_option linter.unusedVariables false
set_option linter.unusedSimpArgs false

theorem Xc.while_at (p : UInt8 → Bool) : ∀ (l : List UInt8) (k : Nat), k ≤ l.length → (∀ j, j < k → p (l.getD j 0) = true) → (k = l.length ∨ p (l.getD k 0) = false) → l.takeWhile p = l.take k ∧ l.dropWhile p = l.drop k
  | [], k, hk, _, _ => by simp
  | c :: t, 0, _, _, h => by
    rcases h with h | h
    · simp at h
    · have h' : p c = false := h
      simp [List.takeWhile_cons, List.dropWhile_cons, h']
  | c :: t, k + 1, hk, hno, h => by
    have hc : p c = true := hno 0 (by omega)
    have := Xc.while_at p t k (by simpa using hk) (fun j hj => hno (j + 1) (by omega)) (by
      rcases h with h | h
      · left; simpa using h
      · right; exact h)
    simp [List.takeWhile_cons, List.dropWhile_cons, hc, this]
theorem Xc.skip_at {s : List UInt8} {k : Nat} (hk : k ≤ s.length) (hno : ∀ j, j < k → Xc.gap (s.getD j 0) = true) (h : k = s.length ∨ Xc.gap (s.getD k 0) = false) : Xc.skip s = s.drop k := (Xc.while_at Xc.gap s k hk hno h).2
theorem Xc.word_at {s : List UInt8} {k n : Nat} (hs : Xc.skip s = s.drop k) (hkn : k ≤ n) (hn : n ≤ s.length) (hno : ∀ j, k ≤ j → j < n → Xc.gap (s.getD j 0) = false) (h : n = s.length ∨ Xc.gap (s.getD n 0) = true) : Xc.word s = (s.drop k).take (n - k) ∧ Xc.rest s = s.drop n := by
  have hd : ∀ j, (s.drop k).getD j 0 = s.getD (k + j) 0 := fun j => by simp [List.getD, List.getElem?_drop]
  have := Xc.while_at (fun c => !Xc.gap c) (s.drop k) (n - k) (by simp; omega) (fun j hj => by rw [hd, hno (k + j) (by omega) (by omega)]; rfl) (by
    rcases h with h | h
    · left; simp [h]
    · right; rw [hd, show k + (n - k) = n by omega, h]; rfl)
  unfold Xc.word Xc.rest
  rw [hs, this.1, this.2, List.drop_drop, show k + (n - k) = n by omega]
  exact ⟨rfl, rfl⟩
theorem Xc.gap_le {c : UInt8} (h : Xc.gap c = true) : (c.toNat : Int) ≤ 32 := by have := of_decide_eq_true h; omega
theorem Xc.gap_gt {c : UInt8} (h : Xc.gap c = false) : (32 : Int) < (c.toNat : Int) := by have := of_decide_eq_false h; omega
theorem Xc.word_len (s : List UInt8) : (Xc.word s).length ≤ s.length ∧ (Xc.rest s).length ≤ s.length := by
  have h1 : (Xc.skip s).length ≤ s.length := (List.dropWhile_sublist _).length_le
  exact ⟨Nat.le_trans (List.takeWhile_sublist _).length_le h1, Nat.le_trans (List.dropWhile_sublist _).length_le h1⟩
set_option maxRecDepth 100000 in
set_option maxHeartbeats 2000000 in
theorem xnext_any (g : Nat) (s : List UInt8) (w : World) (hc : w.cell? ⟨g, 0, none⟩ = some (.string ⟨s.toArray⟩)) (hf : w.frozen? ⟨g, 0, none⟩ = false) (hs : s.length ≤ 1000000000) :
    Calls Tryd.prog 79 #[.pointer (some ⟨g, 0, none⟩)] w fun e w' => e = .returned (.string ⟨(Xc.word s).toArray⟩) ∧ w' = w.setCell ⟨g, 0, none⟩ (.string ⟨(Xc.rest s).toArray⟩) := by
  have HD := Lib.hid (fun k (hk : k < s.length) => L6.get_data s k hk)
  have HS := Lib.hid hs
  clear hs
  go_enter Tryd.func79, Tryd.ntmps79
  go_wp2_with fail
  go_loop [3] (fun i => ∃ k : Nat, i = .int .i64 (k : Int) ∧ k ≤ s.length ∧ ∀ j, j < k → Xc.gap (s.getD j 0) = true) (fun i => s.length - (intOf i).toNat)
  case atStart => exact ⟨0, rfl, Nat.zero_le _, fun j hj => absurd hj (by omega)⟩
  case round =>
    obtain ⟨k, rfl, hk, hno⟩ := hrel
    have HSA := Lib.hid (fun h => Xc.skip_at hk hno h)
    have HN := Lib.hid hno
    clear hno
    by_cases hlt : k < s.length
    · have hlt' : (k : Int) < (s.length : Int) := by omega
      have hw1 : IntKind.i64.wrap ((k : Int) + 1) = (k : Int) + 1 := by have := HS.out; rw [IntKind.wrap_i64]; omega
      have hdd := HD.out k hlt
      have HLT := Lib.hid hlt
      cases hg : Xc.gap (s.getD k 0)
      · have h32 : ¬ ((((⟨s.toArray⟩ : ByteArray)[k]'hlt).toNat : Int)) ≤ 32 := by rw [hdd]; have := Xc.gap_gt hg; omega
        have HSK := Lib.hid (HSA.out (.inr hg))
        clear hg hdd
        have HKL := Lib.hid hk
        go_wp2_with fail
        go_loop [4] (fun i => ∃ n : Nat, i = .int .i64 (n : Int) ∧ k ≤ n ∧ n ≤ s.length ∧ ∀ j, k ≤ j → j < n → Xc.gap (s.getD j 0) = false) (fun i => s.length - (intOf i).toNat)
        case atStart => exact ⟨k, rfl, Nat.le_refl _, HKL.out, fun j h1 h2 => absurd h1 (by omega)⟩
        case round =>
          obtain ⟨n, rfl, hkn, hn, hno2⟩ := hrel
          have HW := Lib.hid (fun h => Xc.word_at HSK.out hkn hn hno2 h)
          have HN2 := Lib.hid hno2
          clear hno2
          have fin : ∀ (h : n = s.length ∨ Xc.gap (s.getD n 0) = true), (⟨s.toArray⟩ : ByteArray).extract k n = ⟨(Xc.word s).toArray⟩ ∧ (⟨s.toArray⟩ : ByteArray).extract n s.length = ⟨(Xc.rest s).toArray⟩ := fun h => by
            obtain ⟨e1, e2⟩ := HW.out h
            rw [ext_eq, ext_eq, e1, e2, List.take_of_length_le (l := s.drop n) (by simp)]
            exact ⟨rfl, rfl⟩
          have HFIN := Lib.hid fin
          clear fin
          have hkni : (k : Int) ≤ (n : Int) := by omega
          have hnni : (n : Int) ≤ (s.length : Int) := by omega
          by_cases hlt2 : n < s.length
          · have hlt2' : (n : Int) < (s.length : Int) := by omega
            have hwn : IntKind.i64.wrap ((n : Int) + 1) = (n : Int) + 1 := by have := HS.out; rw [IntKind.wrap_i64]; omega
            have hdd := HD.out n hlt2
            have HLT2 := Lib.hid hlt2
            cases hg2 : Xc.gap (s.getD n 0)
            · have h32 := Xc.gap_gt hg2
              rw [← hdd] at h32
              have HNX := Lib.hid (show ∀ j, k ≤ j → j < n + 1 → Xc.gap (s.getD j 0) = false from fun j h1 h2 => by
                by_cases e : j = n
                · subst e; exact hg2
                · exact HN2.out j h1 (by omega))
              clear hg2 hdd
              go_wp2_with fail
              go_round
              case rel => exact ⟨n + 1, by simp, by omega, HLT2.out, HNX.out⟩
              case measure => have := HLT2.out; simp [intOf]; omega
            · have h32 : ¬ (32 : Int) < (((⟨s.toArray⟩ : ByteArray)[n]'hlt2).toNat : Int) := by rw [hdd]; have := Xc.gap_le hg2; omega
              have HR := Lib.hid (HFIN.out (.inr hg2))
              clear hg2 hdd
              go_wp2_with fail
              go_ret
              exact ⟨congrArg (fun x => Ending.returned (.string x)) HR.out.1, congrArg (fun x => w.setCell ⟨g, 0, none⟩ (.string x)) HR.out.2⟩
          · have hge2 : ¬ (n : Int) < (s.length : Int) := by omega
            have HR := Lib.hid (HFIN.out (.inl (by omega)))
            clear hlt2
            go_wp2_with fail
            go_ret
            exact ⟨congrArg (fun x => Ending.returned (.string x)) HR.out.1, congrArg (fun x => w.setCell ⟨g, 0, none⟩ (.string x)) HR.out.2⟩
      · have h32 := Xc.gap_le hg
        rw [← hdd] at h32
        have HNX := Lib.hid (show ∀ j, j < k + 1 → Xc.gap (s.getD j 0) = true from fun j h2 => by
          by_cases e : j = k
          · subst e; exact hg
          · exact HN.out j (by omega))
        clear hg hdd
        go_wp2_with fail
        go_round
        case rel => exact ⟨k + 1, by simp, HLT.out, HNX.out⟩
        case measure => have := HLT.out; simp [intOf]; omega
    · have hge : ¬ (k : Int) < (s.length : Int) := by omega
      have HSK := Lib.hid (HSA.out (.inl (by omega)))
      clear hlt
      have HKL := Lib.hid hk
      go_wp2_with fail
      go_loop [4] (fun i => ∃ n : Nat, i = .int .i64 (n : Int) ∧ k ≤ n ∧ n ≤ s.length ∧ ∀ j, k ≤ j → j < n → Xc.gap (s.getD j 0) = false) (fun i => s.length - (intOf i).toNat)
      case atStart => exact ⟨k, rfl, Nat.le_refl _, HKL.out, fun j h1 h2 => absurd h1 (by omega)⟩
      case round =>
        obtain ⟨n, rfl, hkn, hn, hno2⟩ := hrel
        have HW := Lib.hid (fun h => Xc.word_at HSK.out hkn hn hno2 h)
        have HN2 := Lib.hid hno2
        clear hno2
        have fin : ∀ (h : n = s.length ∨ Xc.gap (s.getD n 0) = true), (⟨s.toArray⟩ : ByteArray).extract k n = ⟨(Xc.word s).toArray⟩ ∧ (⟨s.toArray⟩ : ByteArray).extract n s.length = ⟨(Xc.rest s).toArray⟩ := fun h => by
          obtain ⟨e1, e2⟩ := HW.out h
          rw [ext_eq, ext_eq, e1, e2, List.take_of_length_le (l := s.drop n) (by simp)]
          exact ⟨rfl, rfl⟩
        have HFIN := Lib.hid fin
        clear fin
        have hkni : (k : Int) ≤ (n : Int) := by omega
        have hnni : (n : Int) ≤ (s.length : Int) := by omega
        have hge2 : ¬ (n : Int) < (s.length : Int) := by omega
        have HR := Lib.hid (HFIN.out (.inl (by omega)))
        go_wp2_with fail
        go_ret
        exact ⟨congrArg (fun x => Ending.returned (.string x)) HR.out.1, congrArg (fun x => w.setCell ⟨g, 0, none⟩ (.string x)) HR.out.2⟩
/-- What is ahead of a byte goes, and the byte. -/
theorem Xc.idx_cases : ∀ (s : List UInt8) (c : UInt8), (Lib.indexByte s c = -1 ∧ Xc.upTo c s = []) ∨ ∃ i : Nat, i < s.length ∧ Lib.indexByte s c = i ∧ Xc.upTo c s = s.drop (i + 1)
  | [], c => .inl ⟨rfl, rfl⟩
  | x :: t, c => by
    by_cases hx : x = c
    · right
      refine ⟨0, by simp, ?_, ?_⟩
      · unfold Lib.indexByte; rw [if_pos (by simp [hx])]; rfl
      · unfold Xc.upTo; rw [List.dropWhile_cons, if_neg (by simp [hx])]
    · have hb : ¬ (x == c) = true := by simpa using hx
      have hu : Xc.upTo c (x :: t) = Xc.upTo c t := by unfold Xc.upTo; rw [List.dropWhile_cons, if_pos (by simpa using hx)]
      rcases Xc.idx_cases t c with ⟨h1, h2⟩ | ⟨i, h1, h2, h3⟩
      · left
        exact ⟨by unfold Lib.indexByte; rw [if_neg hb, h1]; rfl, by rw [hu, h2]⟩
      · right
        refine ⟨i + 1, by simpa using h1, ?_, by rw [hu, h3]; rfl⟩
        unfold Lib.indexByte
        rw [if_neg hb, h2, if_neg (by simp)]
        simp
def Xc.CutPost (c : UInt8) (s : List UInt8) (w : World) (e : Ending) (w' : World) : Prop := ∃ a b, e = .returned (.tuple #[.string a, .string ⟨(Xc.upTo c s).toArray⟩, .bool b]) ∧ ∃ n, w' = w.drewN n
theorem lret_ssb' (a : ByteArray) {b b' : ByteArray} {x y : Bool} (h2 : b = b') (h3 : x = y) : Ending.returned (.tuple #[.string a, .string b, .bool x]) = .returned (.tuple #[.string a, .string b', .bool y]) := by rw [h2, h3]
set_option maxRecDepth 100000 in
set_option maxHeartbeats 1000000 in
theorem xcut0_any (c : UInt8) (s : List UInt8) (w : World) (hs : s.length ≤ 1000000000) : Calls Tryd.prog 130 #[.string ⟨s.toArray⟩, .string ⟨#[c]⟩] w (Xc.CutPost c s w) := by
  have CI := fun W => Tryd.stringslite_Index_one ⟨s.toArray⟩ c W
  rw [show ((⟨s.toArray⟩ : ByteArray).data.toList) = s from rfl] at CI
  rcases Xc.idx_cases s c with ⟨h1, h2⟩ | ⟨i, h1, h2, h3⟩
  · rw [h1] at CI
    have HR := Lib.hid h2
    have CI := Lib.hid CI
    clear h1 h2
    go_enter Tryd.func130, Tryd.ntmps130
    go_wp2_with (go_at_call 123; refine (CI.out _).mono ?_; rintro e w' ⟨rfl, rfl⟩)
    go_ret3
    exact ⟨_, _, lret_ssb' _ (by rw [HR.out]) rfl, 0, rfl⟩
  · rw [h2] at CI
    have CI := Lib.hid CI
    have HR := Lib.hid (show (⟨s.toArray⟩ : ByteArray).extract (i + 1) s.length = ⟨(Xc.upTo c s).toArray⟩ from by rw [ext_eq, h3, List.take_of_length_le (by simp)])
    have hi1 : (i : Int) < s.length := by omega
    have hi0 : (i : Int) ≤ s.length := by omega
    have hi2 : (i : Int) + 1 ≤ s.length := by omega
    have hi3 : (0 : Int) ≤ (i : Int) + 1 := by omega
    have hi4 : ((i : Int) + 1).toNat = i + 1 := by omega
    have hwr : IntKind.i64.wrap ((i : Int) + 1) = (i : Int) + 1 := by rw [IntKind.wrap_i64]; omega
    clear h1 h2 h3
    go_enter Tryd.func130, Tryd.ntmps130
    go_wp2_with (go_at_call 123; refine (CI.out _).mono ?_; rintro e w' ⟨rfl, rfl⟩)
    go_quiet (fail)
    go_wp2_with fail
    go_ret3
    exact ⟨_, _, lret_ssb' _ HR.out rfl, nq, rfl⟩
theorem xcut_any (c : UInt8) (s : List UInt8) (w : World) (hs : s.length ≤ 1000000000) : Calls Tryd.prog 103 #[.string ⟨s.toArray⟩, .string ⟨#[c]⟩] w (Xc.CutPost c s w) := by
  have CI := Lib.hid (xcut0_any c s w hs)
  go_enter Tryd.func103, Tryd.ntmps103
  go_wp2_with (go_at_call 130; refine CI.out.mono ?_; rintro e w' ⟨a, b, rfl, n, rfl⟩)
  go_ret3
  exact ⟨_, _, rfl, n, rfl⟩
theorem below_drewN {B : Nat} {w w' : World} (h : Below B w w') (n : Nat) : Below B w (w'.drewN n) := ⟨h.os, h.tape, h.output, h.size, h.block⟩
def Xc.UpPost (g : Nat) (s : List UInt8) (w : World) (e : Ending) (w' : World) : Prop := (∃ v, e = .returned v) ∧ ∃ w1, Below w.heap.size w w1 ∧ w' = w1.setCell ⟨g, 0, none⟩ (.string ⟨(Xc.upTo 41 s).toArray⟩)
set_option maxRecDepth 100000 in
set_option maxHeartbeats 2000000 in
theorem xupto_any (g : Nat) (s : List UInt8) (w : World) (hg : g < w.heap.size) (hc : w.cell? ⟨g, 0, none⟩ = some (.string ⟨s.toArray⟩)) (hf : w.frozen? ⟨g, 0, none⟩ = false) (hs : s.length ≤ 1000000000) :
    Calls Tryd.prog 80 #[.pointer (some ⟨g, 0, none⟩), .int .u8 41] w (Xc.UpPost g s w) := by
  have CC := Lib.hid (fun W => xcut_any 41 s W hs)
  have HW := Lib.hid (fun W (hW : Below w.heap.size w W) => show W.cell? ⟨g, 0, none⟩ = some (.string ⟨s.toArray⟩) ∧ W.frozen? ⟨g, 0, none⟩ = false from ⟨(hW.cell (p := ⟨g, 0, none⟩) hg).trans hc, (hW.frozen (p := ⟨g, 0, none⟩) hg).trans hf⟩)
  have HCV := Lib.hid (fun (W : World) (hb : Bk W w.heap.size 5 #[.int .u8 41]) => show (convert 47 9 (.slice (some ⟨w.heap.size, 0, none⟩) 1 1)).run Tryd.prog W = .ok (.string ⟨#[41]⟩) W from
    run_string_of lbt Tryd.underlying9 (l := [41]) (.inr ⟨w.heap.size, 0, 1, rfl, hb.lt, Nat.le_refl _, by unfold maxLen; omega, fun j hj => by
      have : j = 0 := by simpa using hj
      subst this
      exact hb.cell 0⟩))
  have HFR := Lib.hid (Bk.fresh w 5 #[.int .u8 41])
  go_enter Tryd.func80, Tryd.ntmps80
  go_wp2_with fail
  refine wp_region_held_drew (S := fun W' => W'.cell? ⟨g, 0, none⟩ = some (.string ⟨s.toArray⟩)) (by kernel_rfl) ((HW.out _ (Below.refl _ _).drew).1) (fun hHeld => ?_)
  refine wpAnyH_take (i := 0) (v := ?_) rfl (by kernel_rfl) (by kernel_rfl) (by kernel_rfl) (fun _ _ _ h => h) (Or.inl ⟨by rfl, ?_⟩) (by assumption) ?_
  rotate_left
  · (intro w hSw; (try dsimp only at hSw); simp only [List.getElem_toArray, List.getElem_cons_zero, List.getElem_cons_succ]; go_simp; (try with_reducible rfl))
  try simp only [Act.put, List.getElem_toArray, List.getElem_cons_zero, List.getElem_cons_succ, List.setIfInBounds_toArray, List.set_cons_zero, List.set_cons_succ]
  refine wpAnyH_take (i := 1) (v := ?_) rfl (by kernel_rfl) (by kernel_rfl) (by kernel_rfl) (fun _ _ _ h => h) (Or.inl ⟨by rfl, ?_⟩) (by assumption) ?_
  rotate_left
  · (intro w hSw; (try dsimp only at hSw); simp only [List.getElem_toArray, List.getElem_cons_zero, List.getElem_cons_succ]; go_simp; (try with_reducible rfl))
  try simp only [Act.put, List.getElem_toArray, List.getElem_cons_zero, List.getElem_cons_succ, List.setIfInBounds_toArray, List.set_cons_zero, List.set_cons_succ]
  refine wpAnyH_take (i := 2) (v := ?_) rfl (by kernel_rfl) (by kernel_rfl) (by kernel_rfl) (fun _ _ _ h => h) (Or.inl ⟨by rfl, ?_⟩) (by assumption) ?_
  rotate_left
  · (intro w hSw; (try dsimp only at hSw); simp only [List.getElem_toArray, List.getElem_cons_zero, List.getElem_cons_succ]; go_simp; (try with_reducible rfl))
  try simp only [Act.put, List.getElem_toArray, List.getElem_cons_zero, List.getElem_cons_succ, List.setIfInBounds_toArray, List.set_cons_zero, List.set_cons_succ]
  refine wpAnyH_take (i := 3) (v := ?_) rfl (by kernel_rfl) (by kernel_rfl) (by kernel_rfl) (fun _ _ _ h => h) (Or.inl ⟨by rfl, ?_⟩) (by assumption) ?_
  rotate_left
  · (intro w hSw; (try dsimp only at hSw); simp only [List.getElem_toArray, List.getElem_cons_zero, List.getElem_cons_succ]; go_simp; (try with_reducible rfl))
  try simp only [Act.put, List.getElem_toArray, List.getElem_cons_zero, List.getElem_cons_succ, List.setIfInBounds_toArray, List.set_cons_zero, List.set_cons_succ]
  refine wpAnyH_take (i := 4) (v := ?_) rfl (by kernel_rfl) (by kernel_rfl) (by kernel_rfl) (fun _ _ _ h => h) (Or.inl ⟨by rfl, ?_⟩) (by assumption) ?_
  rotate_left
  · (intro w hSw; (try dsimp only at hSw); simp only [List.getElem_toArray, List.getElem_cons_zero, List.getElem_cons_succ]; go_simp; (try with_reducible rfl))
  try simp only [Act.put, List.getElem_toArray, List.getElem_cons_zero, List.getElem_cons_succ, List.setIfInBounds_toArray, List.set_cons_zero, List.set_cons_succ]
  refine wpAnyH_ready (rs := [5]) (by kernel_rfl) (by simp) ?_
  refine AllReadyH.cons rfl (fun K hK => ?_) AllReadyH.nil
  simp only [List.getElem_toArray, List.getElem_cons_zero, List.getElem_cons_succ]
  rw [if_pos (by rfl)]
  go_simp
  refine hK.out _ _ ((HW.out _ ((Below.refl _ _).drew.alloc (Nat.le_refl _) _)).1) (fun hHeld => ?_)
  clear hK K
  try simp only [Act.put, List.getElem_toArray, List.getElem_cons_zero, List.getElem_cons_succ, List.setIfInBounds_toArray, List.set_cons_zero, List.set_cons_succ]
  refine wpAnyH_ready (rs := [6]) (by kernel_rfl) (by simp) ?_
  refine AllReadyH.cons rfl (fun K hK => ?_) AllReadyH.nil
  simp only [List.getElem_toArray, List.getElem_cons_zero, List.getElem_cons_succ]
  rw [if_pos (by rfl)]
  go_simp
  rw [HCV.out (w.alloc (.cells #[.int .u8 41] 5)).drew HFR.out]
  go_simp
  refine hK.out _ _ ((HW.out _ ((Below.refl _ _).drew.alloc (Nat.le_refl _) _)).1) (fun hHeld => ?_)
  clear hK K
  try simp only [Act.put, List.getElem_toArray, List.getElem_cons_zero, List.getElem_cons_succ, List.setIfInBounds_toArray, List.set_cons_zero, List.set_cons_succ]
  refine wpAnyH_ready (rs := [7]) (by kernel_rfl) (by simp) ?_
  refine AllReadyH.cons rfl (fun K hK => ?_) AllReadyH.nil
  simp only [List.getElem_toArray, List.getElem_cons_zero, List.getElem_cons_succ]
  rw [if_pos (by rfl)]
  go_simp
  go_at_call 103
  refine (CC.out _).mono ?_
  rintro e w2 ⟨a, b, rfl, n, rfl⟩
  go_simp
  refine hK.out _ _ ((HW.out _ (below_drewN ((Below.refl _ _).alloc (Nat.le_refl _) _) _)).1) (fun hHeld => ?_)
  clear hK K
  try simp only [Act.put, List.getElem_toArray, List.getElem_cons_zero, List.getElem_cons_succ, List.setIfInBounds_toArray, List.set_cons_zero, List.set_cons_succ]
  refine wpAnyH_take (i := 8) (v := ?_) rfl (by kernel_rfl) (by kernel_rfl) (by kernel_rfl) (fun _ _ _ h => h) (Or.inl ⟨by rfl, ?_⟩) (by assumption) ?_
  rotate_left
  · (intro w hSw; (try dsimp only at hSw); simp only [List.getElem_toArray, List.getElem_cons_zero, List.getElem_cons_succ]; go_simp; (try with_reducible rfl))
  try simp only [Act.put, List.getElem_toArray, List.getElem_cons_zero, List.getElem_cons_succ, List.setIfInBounds_toArray, List.set_cons_zero, List.set_cons_succ]
  refine wpAnyH_take (i := 9) (v := ?_) rfl (by kernel_rfl) (by kernel_rfl) (by kernel_rfl) (fun _ _ _ h => h) (Or.inl ⟨by rfl, ?_⟩) (by assumption) ?_
  rotate_left
  · (intro w hSw; (try dsimp only at hSw); simp only [List.getElem_toArray, List.getElem_cons_zero, List.getElem_cons_succ]; go_simp; (try with_reducible rfl))
  try simp only [Act.put, List.getElem_toArray, List.getElem_cons_zero, List.getElem_cons_succ, List.setIfInBounds_toArray, List.set_cons_zero, List.set_cons_succ]
  refine wpAnyH_take (i := 10) (v := ?_) rfl (by kernel_rfl) (by kernel_rfl) (by kernel_rfl) (fun _ _ _ h => h) (Or.inl ⟨by rfl, ?_⟩) (by assumption) ?_
  rotate_left
  · (intro w hSw; (try dsimp only at hSw); simp only [List.getElem_toArray, List.getElem_cons_zero, List.getElem_cons_succ]; go_simp; (try with_reducible rfl))
  try simp only [Act.put, List.getElem_toArray, List.getElem_cons_zero, List.getElem_cons_succ, List.setIfInBounds_toArray, List.set_cons_zero, List.set_cons_succ]
  refine wpAnyH_take (i := 11) (v := ?_) rfl (by kernel_rfl) (by kernel_rfl) (by kernel_rfl) (fun _ _ _ h => h) (Or.inl ⟨by rfl, ?_⟩) (by assumption) ?_
  rotate_left
  · (intro w hSw; (try dsimp only at hSw); simp only [List.getElem_toArray, List.getElem_cons_zero, List.getElem_cons_succ]; go_simp; (try with_reducible rfl))
  try simp only [Act.put, List.getElem_toArray, List.getElem_cons_zero, List.getElem_cons_succ, List.setIfInBounds_toArray, List.set_cons_zero, List.set_cons_succ]
  refine wpAnyH_take (i := 12) (v := ?_) rfl (by kernel_rfl) (by kernel_rfl) (by kernel_rfl) (fun _ _ _ h => h) (Or.inl ⟨by rfl, ?_⟩) (by assumption) ?_
  rotate_left
  · (intro w hSw; (try dsimp only at hSw); simp only [List.getElem_toArray, List.getElem_cons_zero, List.getElem_cons_succ]; go_simp; (try with_reducible rfl))
  try simp only [Act.put, List.getElem_toArray, List.getElem_cons_zero, List.getElem_cons_succ, List.setIfInBounds_toArray, List.set_cons_zero, List.set_cons_succ]
  refine wpAnyH_take (i := 13) (v := ?_) rfl (by kernel_rfl) (by kernel_rfl) (by kernel_rfl) (fun _ _ _ h => h) (Or.inl ⟨by rfl, ?_⟩) (by assumption) ?_
  rotate_left
  · (intro w hSw; (try dsimp only at hSw); simp only [List.getElem_toArray, List.getElem_cons_zero, List.getElem_cons_succ]; go_simp; (try with_reducible rfl))
  try simp only [Act.put, List.getElem_toArray, List.getElem_cons_zero, List.getElem_cons_succ, List.setIfInBounds_toArray, List.set_cons_zero, List.set_cons_succ]
  refine wpAnyH_take (i := 14) (v := ?_) rfl (by kernel_rfl) (by kernel_rfl) (by kernel_rfl) (fun _ _ _ h => h) (Or.inl ⟨by rfl, ?_⟩) (by assumption) ?_
  rotate_left
  · (intro w hSw; (try dsimp only at hSw); simp only [List.getElem_toArray, List.getElem_cons_zero, List.getElem_cons_succ]; go_simp; (try with_reducible rfl))
  try simp only [Act.put, List.getElem_toArray, List.getElem_cons_zero, List.getElem_cons_succ, List.setIfInBounds_toArray, List.set_cons_zero, List.set_cons_succ]
  refine wpAnyH_done (by kernel_rfl) ?_ _
  go_wp2_with fail
  go_ret2
  exact ⟨⟨_, rfl⟩, _, below_drewN ((Below.refl _ _).alloc (Nat.le_refl _) _) _, rfl⟩
/-- Has a line just this word? -/
theorem xalone_any (s x : List UInt8) (w : World) (hs : s.length ≤ 1000000000) :
    Calls Tryd.prog 43 #[.string ⟨s.toArray⟩, .string ⟨x.toArray⟩] w fun e w' => e = .returned (.bool (Xc.alone s x)) ∧ Below w.heap.size w w' := by
  obtain ⟨W1, hW1⟩ : ∃ W1, w.alloc (.cells #[.string ⟨s.toArray⟩] 78) = W1 := ⟨_, rfl⟩
  have hbk : Bk W1 w.heap.size 78 #[.string ⟨s.toArray⟩] := by rw [← hW1]; exact Bk.fresh w _ _
  have hbe : Below w.heap.size w W1 := by rw [← hW1]; exact (Below.refl _ _).alloc (Nat.le_refl _) _
  have hbk2 := hbk.set 0 (.string ⟨(Xc.rest s).toArray⟩)
  have hwl := Xc.word_len s
  have C1 := Lib.hid (xnext_any w.heap.size s W1 (hbk.cell 0) (hbk.free 0) hs)
  have C2 := Lib.hid (xnext_any w.heap.size (Xc.rest s) (W1.setCell ⟨w.heap.size, 0, none⟩ (.string ⟨(Xc.rest s).toArray⟩)) (hbk2.cell 0) (hbk2.free 0) (by omega))
  have HB1 := Lib.hid (hbe.setCell (p := ⟨w.heap.size, 0, none⟩) (Nat.le_refl _) (.string ⟨(Xc.rest s).toArray⟩))
  have HB2 := Lib.hid ((hbe.setCell (p := ⟨w.heap.size, 0, none⟩) (Nat.le_refl _) (.string ⟨(Xc.rest s).toArray⟩)).setCell (p := ⟨w.heap.size, 0, none⟩) (Nat.le_refl _) (.string ⟨(Xc.rest (Xc.rest s)).toArray⟩))
  have HAL := Lib.hid (show Xc.alone s x = (decide (Xc.word s = x) && (Xc.word (Xc.rest s)).isEmpty) from rfl)
  clear hbk hbk2 hwl hbe
  generalize Xc.rest (Xc.rest s) = s2 at *
  generalize Xc.word (Xc.rest s) = y2 at *
  generalize Xc.rest s = s1 at *
  generalize Xc.word s = y1 at *
  by_cases hx : y1 = x
  · subst hx
    rw [show decide (y1 = y1) = true by simp, Bool.true_and] at HAL
    cases y2 with
    | nil =>
      go_enter Tryd.func43, Tryd.ntmps43
      go_wp2_with (first | (go_at_call 79; with_reducible refine C1.out.mono ?_; rintro e w' ⟨rfl, rfl⟩) | (go_at_call 79; with_reducible refine C2.out.mono ?_; rintro e w' ⟨rfl, rfl⟩))
      go_ret
      exact ⟨by rw [HAL.out]; rfl, HB2.out⟩
    | cons c t =>
      go_enter Tryd.func43, Tryd.ntmps43
      go_wp2_with (first | (go_at_call 79; with_reducible refine C1.out.mono ?_; rintro e w' ⟨rfl, rfl⟩) | (go_at_call 79; with_reducible refine C2.out.mono ?_; rintro e w' ⟨rfl, rfl⟩))
      go_ret
      exact ⟨by rw [HAL.out]; rfl, HB2.out⟩
  · have hx2 : (y1 == x) = false := by simpa using hx
    rw [decide_eq_false hx, Bool.false_and] at HAL
    clear hx
    go_enter Tryd.func43, Tryd.ntmps43
    go_wp2_with (go_at_call 79; with_reducible refine C1.out.mono ?_; rintro e w' ⟨rfl, rfl⟩)
    go_ret
    exact ⟨by rw [HAL.out]; rfl, HB1.out⟩
end Go.Proofs.YtfafdkbnmfpbmaaDoor

