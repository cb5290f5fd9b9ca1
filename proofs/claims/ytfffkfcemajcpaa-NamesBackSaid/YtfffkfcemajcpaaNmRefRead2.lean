/- The document's Read, for any bytes: it answers as the program's. -/
import Derived.Test.YtfffkfcemajcpaaNmRefRead
namespace Go.Proofs.Ytfffkfcemajcpaa
open Go.RowKit Kit
set_option linter.unusedVariables false
set_option linter.unusedSimpArgs false

theorem Nm.errN_nat {l : List UInt8} {f : Nat} : Nm.errN l f = 0 ↔ Nm.right l = true ∧ f ≤ 15 := by
  unfold Nm.errN
  cases Nm.right l <;> simp
  omega
theorem Nm.headB_length {s : List UInt8} {fl a b c : Nat} (h : s.length ≤ 31) : (Nm.headB s fl a b c).length = Nm.lengthN s.length := by
  simp only [Nm.headB, List.length_append, Nm.les_length, List.length_cons, List.length_nil, List.length_replicate]
  unfold Nm.lengthN; rw [if_neg (by omega)]; omega
theorem Nm.le4_word {b0 b1 b2 b3 : UInt8} : Nm.le4 (Nm.wordN b0.toNat b1.toNat b2.toNat b3.toNat) = [b0, b1, b2, b3] := by
  have h0 := b0.toNat_lt; have h1 := b1.toNat_lt; have h2 := b2.toNat_lt; have h3 := b3.toNat_lt
  simp only [Nm.le4, Nm.wordN, List.cons.injEq, ← UInt8.toNat_inj, UInt8.toNat_ofNat', and_true]
  omega
theorem Nm.wordN_lt (b0 b1 b2 b3 : UInt8) : Nm.wordN b0.toNat b1.toNat b2.toNat b3.toNat < 4294967296 := by
  have h0 := b0.toNat_lt; have h1 := b1.toNat_lt; have h2 := b2.toNat_lt; have h3 := b3.toNat_lt
  unfold Nm.wordN; omega
/-- The first bytes of a long list. -/
theorem Nm.split14 (l : List UInt8) (h : 14 + Nm.nl l ≤ l.length) : l = Nm.les [Nm.wat l 0, Nm.wat l 4, Nm.wat l 8] ++ ([UInt8.ofNat (Nm.flg l), UInt8.ofNat (Nm.nl l)] ++ (Nm.name l ++ l.drop (14 + Nm.nl l))) := by
  have e : ∀ i, i < l.length → l[i]? = some (l.getD i 0) := fun i hi => by simp [List.getD, List.getElem?_eq_getElem hi]
  have hd : l.drop 14 = Nm.name l ++ l.drop (14 + Nm.nl l) := by
    rw [Nm.name, ← List.drop_drop, List.take_append_drop]
  have ht : l.take 14 = Nm.les [Nm.wat l 0, Nm.wat l 4, Nm.wat l 8] ++ [UInt8.ofNat (Nm.flg l), UInt8.ofNat (Nm.nl l)] := by
    simp only [Nm.les, List.flatMap_cons, List.flatMap_nil, List.append_nil, Nm.wat, Nm.le4_word, Nm.flg, Nm.nl, UInt8.ofNat_toNat]
    apply List.ext_getElem?
    intro i
    by_cases hi : i < 14
    · rw [List.getElem?_take, if_pos hi, e i (by omega)]
      have : i = 0 ∨ i = 1 ∨ i = 2 ∨ i = 3 ∨ i = 4 ∨ i = 5 ∨ i = 6 ∨ i = 7 ∨ i = 8 ∨ i = 9 ∨ i = 10 ∨ i = 11 ∨ i = 12 ∨ i = 13 := by omega
      rcases this with h | h | h | h | h | h | h | h | h | h | h | h | h | h <;> subst h <;> rfl
    · rw [List.getElem?_take, if_neg hi]
      symm
      apply List.getElem?_eq_none
      simp; omega
  rw [← List.append_assoc, ← ht, ← hd, List.take_append_drop]
theorem Nm.take_head (l : List UInt8) (h : 14 + Nm.nl l ≤ l.length) (h31 : Nm.nl l ≤ 31) (hN : Nm.lengthN (Nm.nl l) ≤ l.length) :
    l.take (Nm.lengthN (Nm.nl l)) = Nm.headB (Nm.name l) (Nm.flg l) (Nm.wat l 0) (Nm.wat l 4) (Nm.wat l 8) ↔ (Nm.pad l).all (· == 0) = true := by
  have hname : (Nm.name l).length = Nm.nl l := by simp [Nm.name]; omega
  have hln : 14 + Nm.nl l ≤ Nm.lengthN (Nm.nl l) := by unfold Nm.lengthN; rw [if_neg (by omega)]; omega
  have e : l.take (Nm.lengthN (Nm.nl l)) = Nm.les [Nm.wat l 0, Nm.wat l 4, Nm.wat l 8] ++ ([UInt8.ofNat (Nm.flg l), UInt8.ofNat (Nm.nl l)] ++ (Nm.name l ++ Nm.pad l)) := by
    have hP : Nm.pad l = (l.drop (14 + Nm.nl l)).take (Nm.lengthN (Nm.nl l) - (14 + Nm.nl l)) := rfl
    rw [hP]
    generalize Nm.lengthN (Nm.nl l) = N at *
    refine (congrArg (List.take N) (Nm.split14 l h)).trans ?_
    generalize l.drop (14 + Nm.nl l) = D
    rw [List.take_append, List.take_of_length_le (by rw [Nm.les_length]; simp; omega), List.take_append, List.take_of_length_le (by rw [Nm.les_length]; simp; omega), List.take_append, List.take_of_length_le (by rw [Nm.les_length, hname]; simp; omega)]
    congr 4
    rw [Nm.les_length, hname]
    simp; omega
  rw [e, Nm.headB, hname]
  simp only [List.append_assoc]
  rw [List.append_cancel_left_eq, List.append_cancel_left_eq, List.append_cancel_left_eq]
  constructor
  · intro hp
    rw [hp]; simp
  · intro hp
    apply List.eq_replicate_iff.2
    refine ⟨by simp [Nm.pad]; omega, fun c hc => ?_⟩
    have := List.all_eq_true.1 hp c hc
    simpa using this

theorem read_ref (g off cap : Nat) (l : List UInt8) (w : World) (hc : ∀ j, j < l.length → w.cell? ⟨g, off + j, none⟩ = some (.int .u8 (l.getD j 0).toNat)) (hg : g < w.heap.size) (hcap : l.length ≤ cap) (hcm : cap ≤ maxLen) (h2000 : l.length ≤ 2000) :
    Calls Try.prog 36 #[.slice (some ⟨g, off, none⟩) l.length cap] w fun e w' => e = .returned (Nm.readV l) ∧ Below w.heap.size w w' := by
  by_cases h14 : 14 ≤ l.length ∧ 14 + Nm.nl l ≤ l.length
  · obtain ⟨h14, hl2⟩ := h14
    have hname : (Nm.name l).length = Nm.nl l := by simp [Nm.name]; omega
    have hsz : (⟨(Nm.name l).toArray⟩ : ByteArray).size = Nm.nl l := by rw [← hname]; rfl
    have hmax : (⟨(Nm.name l).toArray⟩ : ByteArray).size ≤ maxLen := by rw [hsz]; unfold maxLen; omega
    obtain ⟨v2, hsl, hrd2⟩ := slice_rd bt g off l.length cap 14 (14 + Nm.nl l) (by omega) (by omega)
    have hcW : ∀ W', Below w.heap.size w W' → ∀ j, j < l.length → W'.cell? ⟨g, off + j, none⟩ = some (.int .u8 (l.getD j 0).toNat) := fun W' hb j hj => (hb.cell (p := ⟨g, off + j, none⟩) hg).trans (hc j hj)
    have hL : (Nm.outB (Nm.name l) (Nm.flg l) (Nm.wat l 0) (Nm.wat l 4) (Nm.wat l 8)).length ≤ 60 := by
      unfold Nm.outB
      split
      · rename_i h0
        have h1 := (Nm.errN_zero h0).1
        rw [Int.toNat_natCast, Nm.headB_length h1]; unfold Nm.lengthN; split <;> omega
      · simp
    obtain ⟨vL, hslL, hrdL⟩ : ∃ vL, ((Nm.outB (Nm.name l) (Nm.flg l) (Nm.wat l 0) (Nm.wat l 4) (Nm.wat l 8)).length ≤ l.length → ∀ W', (Instr.slice 22 (.slice (some ⟨g, off, none⟩) l.length cap) none (some (.int .i64 ((Nm.outB (Nm.name l) (Nm.flg l) (Nm.wat l 0) (Nm.wat l 4) (Nm.wat l 8)).length : Nat))) none).run Try.prog W' = .ok vL W') ∧
        ((Nm.outB (Nm.name l) (Nm.flg l) (Nm.wat l 0) (Nm.wat l 4) (Nm.wat l 8)).length ≤ l.length → ∀ W', Below w.heap.size w W' → (convert 22 9 vL).run Try.prog W' = .ok (.string ⟨(l.take (Nm.outB (Nm.name l) (Nm.flg l) (Nm.wat l 0) (Nm.wat l 4) (Nm.wat l 8)).length).toArray⟩) W') := by
      generalize (Nm.outB (Nm.name l) (Nm.flg l) (Nm.wat l 0) (Nm.wat l 4) (Nm.wat l 8)).length = N
      by_cases hN : N ≤ l.length
      · refine ⟨sliced (some ⟨g, off, none⟩) 0 N cap 1, fun _ W' => slice_run_h g off l.length cap N (by omega) _ rfl W', fun _ W' hb => ?_⟩
        obtain ⟨v3, h3, r3⟩ := slice_rd bt g off l.length cap 0 N (by omega) (by omega)
        have e3 := h3 0 N rfl rfl w
        rw [slice_run g off l.length cap 0 N (by omega) (by omega) 0 N rfl rfl w] at e3
        obtain rfl : sliced (some ⟨g, off, none⟩) 0 N cap 1 = v3 := by injection e3
        have := run_string_of bt Try.underlying9 (r3 W' l rfl hN hcap hcm (Nat.lt_of_lt_of_le hg hb.size) (hcW W' hb))
        simpa using this
      · exact ⟨.bool false, fun h => absurd h hN, fun h => absurd h hN⟩
    have key := refRead_core w g off cap l.length (Nm.nl l) (Nm.flg l) (Nm.name l) (Nm.wat l 0) (Nm.wat l 4) (Nm.wat l 8) v2 (Nm.errN (Nm.name l) (Nm.flg l)) (Nm.outB (Nm.name l) (Nm.flg l) (Nm.wat l 0) (Nm.wat l 4) (Nm.wat l 8)) (l.take (Nm.outB (Nm.name l) (Nm.flg l) (Nm.wat l 0) (Nm.wat l 4) (Nm.wat l 8)).length) vL
      { c13 := fun W' hb => hcW W' hb 13 (by omega)
        c12 := fun W' hb => hcW W' hb 12 (by omega)
        cv := fun W' hb => by
          have := run_string_of bt Try.underlying9 (hrd2 W' l rfl hl2 hcap hcm (Nat.lt_of_lt_of_le hg hb.size) (hcW W' hb))
          rw [show 14 + Nm.nl l - 14 = Nm.nl l by omega] at this
          exact this
        s2 := fun W' => hsl 14 (14 + (Nm.nl l : Int)) rfl (by omega) W'
        sL := hslL
        cvL := hrdL
        w0 := fun W' hb => word_ref g off 0 l.length cap _ _ _ _ W' (by omega) (by omega) (hcW W' hb 0 (by omega)) (hcW W' hb 1 (by omega)) (hcW W' hb 2 (by omega)) (hcW W' hb 3 (by omega))
        w4 := fun W' hb => word_ref g off 4 l.length cap _ _ _ _ W' (by omega) (by omega) (hcW W' hb 4 (by omega)) (hcW W' hb 5 (by omega)) (hcW W' hb 6 (by omega)) (hcW W' hb 7 (by omega))
        w8 := fun W' hb => word_ref g off 8 l.length cap _ _ _ _ W' (by omega) (by omega) (hcW W' hb 8 (by omega)) (hcW W' hb 9 (by omega)) (hcW W' hb 10 (by omega)) (hcW W' hb 11 (by omega))
        bytes := fun W' => refBytes_any ⟨(Nm.name l).toArray⟩ (Nm.flg l) (Nm.wat l 0) (Nm.wat l 4) (Nm.wat l 8) W' hmax (Nm.wordN_lt _ _ _ _) (Nm.wordN_lt _ _ _ _) (Nm.wordN_lt _ _ _ _) }
      hg hcap h14 h2000 (l.getD 13 0).toNat_lt hl2 (l.getD 12 0).toNat_lt hL
    refine key.mono ?_
    rintro e w' ⟨hbad, hgood, hb⟩
    refine ⟨?_, hb⟩
    by_cases h0 : Nm.errN (Nm.name l) (Nm.flg l) = 0
    · have eL : Nm.outB (Nm.name l) (Nm.flg l) (Nm.wat l 0) (Nm.wat l 4) (Nm.wat l 8) = Nm.headB (Nm.name l) (Nm.flg l) (Nm.wat l 0) (Nm.wat l 4) (Nm.wat l 8) := by rw [Nm.outB, if_pos h0, Int.toNat_natCast]
      have h31 : Nm.nl l ≤ 31 := by have := (Nm.errN_zero h0).1; omega
      have hlen : (Nm.headB (Nm.name l) (Nm.flg l) (Nm.wat l 0) (Nm.wat l 4) (Nm.wat l 8)).length = Nm.lengthN (Nm.nl l) := by rw [Nm.headB_length (by omega), hname]
      rw [eL, hlen] at hbad hgood
      obtain ⟨hr, hf⟩ := Nm.errN_nat.1 h0
      by_cases hN : Nm.lengthN (Nm.nl l) ≤ l.length
      · have e1 : decide (14 ≤ l.length) = true := by simp; omega
        have e2 : decide (Nm.nl l ≤ 31) = true := by simp; omega
        have e3 : decide (14 + Nm.nl l ≤ l.length) = true := by simp; omega
        have e5 : decide (Nm.flg l ≤ 15) = true := by simp; omega
        have e6 : decide (Nm.lengthN (Nm.nl l) ≤ l.length) = true := by simp; omega
        have eg : Nm.goodB l = (Nm.pad l).all (· == 0) := by rw [Nm.goodB, e1, e2, e3, hr, e5, e6]; simp only [Bool.true_and]
        cases hp : (Nm.pad l).all (· == 0)
        · rw [hp] at eg
          rw [Nm.readV_bad eg]
          refine hbad (.inr (.inr fun h => ?_))
          rw [Nm.take_head l hl2 h31 hN, hp] at h
          cases h
        · rw [hp] at eg
          rw [Nm.readV_good eg]
          exact hgood ⟨h0, hN, (Nm.take_head l hl2 h31 hN).2 hp⟩
      · have eg : Nm.goodB l = false := by
          have : decide (Nm.lengthN (Nm.nl l) ≤ l.length) = false := by simp; omega
          simp [Nm.goodB, this]
        rw [Nm.readV_bad eg]
        exact hbad (.inr (.inl (by omega)))
    · have eg : Nm.goodB l = false := by
        cases hg : Nm.goodB l
        · rfl
        · have := Nm.goodB_true hg
          exact absurd (Nm.errN_nat.2 ⟨this.1, this.2.1⟩) h0
      rw [Nm.readV_bad eg]
      exact hbad (.inl h0)
  · have e : Nm.goodB l = false := by
      by_cases h : 14 ≤ l.length
      · have : decide (14 + Nm.nl l ≤ l.length) = false := by simp; omega
        simp [Nm.goodB, this]
      · have : decide (14 ≤ l.length) = false := by simp; omega
        simp [Nm.goodB, this]
    rw [Nm.readV_bad e]
    by_cases h : 14 ≤ l.length
    · have c13 : (w.alloc (.cells #[.string ⟨#[]⟩, .int .i64 0, .int .u32 0, .int .u32 0, .int .u32 0] 38)).cell? ⟨g, off + 13, none⟩ = some (.int .u8 (Nm.nl l)) := by
        rw [World.cell?_alloc_past _ _ _ (by simpa using hg)]; exact hc 13 (by omega)
      clear hc
      have h13 : Nm.nl l < 256 := (l.getD 13 0).toNat_lt
      have n13 : 13 < l.length := by omega
      have n13' : (13 : Int) < l.length := by omega
      generalize Nm.nl l = k at *
      generalize l.length = n at *
      have h2 : n < 14 + k := by omega
      clear h14
      go_enter Try.func36, Try.ntmps36
      go_wp2
      exact bodyPost_ret (v := .tuple #[hv0, .int .i64 0, .int .i64 45]) (by simp [results, Try.results36, go_sem]) rfl ⟨rfl, (Below.refl _ _).alloc (Nat.le_refl _) _⟩
    · have h1 : l.length < 14 := by omega
      clear h14 h hc
      generalize l.length = n at *
      go_enter Try.func36, Try.ntmps36
      go_wp2
      exact bodyPost_ret (v := .tuple #[hv0, .int .i64 0, .int .i64 45]) (by simp [results, Try.results36, go_sem]) rfl ⟨rfl, (Below.refl _ _).alloc (Nat.le_refl _) _⟩

end Go.Proofs.Ytfffkfcemajcpaa
