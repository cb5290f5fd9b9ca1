/- Layer 12: one line. -/
import Derived.Test.YtfafdkbnmfpbmaaDoorXcInside
namespace Go.Proofs.YtfafdkbnmfpbmaaDoor
open Go.RowKit Kit
set_option linter.unusedVariables false
set_option linter.unusedSimpArgs false

def Xc.FlW (ws : List Xc.W) : Prop := ∀ x ∈ ws, x.flags < 8
theorem Xc.FlW.upd {f : Xc.W → Xc.W} (hf : ∀ x, x.flags < 8 → (f x).flags < 8) : ∀ {ws : List Xc.W}, Xc.FlW ws → Xc.FlW (Xc.upd f ws)
  | [], h => h
  | [w], h => fun x hx => by
    have hx : x ∈ [f w] := hx
    rw [List.mem_singleton] at hx
    subst hx
    exact hf w (h w (by simp))
  | w :: y :: t, h => fun x hx => by
    rw [Xc.upd] at hx
    rcases List.mem_cons.1 hx with rfl | hx
    · exact h x (by simp)
    · exact Xc.FlW.upd (ws := y :: t) hf (fun z hz => h z (List.mem_cons_of_mem _ hz)) x hx
theorem Xc.FlW.put {ws : List Xc.W} (h : Xc.FlW ws) (ls : List (List UInt8)) : Xc.FlW (Xc.upd (Xc.add ls) ws) := Xc.FlW.upd (f := Xc.add ls) (fun _ hx => hx) h
theorem Xc.FlW.snoc {ws : List Xc.W} (h : Xc.FlW ws) (f : List UInt8) : Xc.FlW (ws ++ [⟨f, 0, []⟩]) := fun x hx => by
  rcases List.mem_append.1 hx with hx | hx
  · exact h x hx
  · rw [List.mem_singleton] at hx; subst hx; show 0 < 8; decide
theorem Xc.close_words {kinds : List (List UInt8)} {S S1 : Xc.S} {k : List UInt8} (h : Xc.close kinds S = some (k, S1)) : S1.words = S.words := by
  obtain ⟨_, r, _, _, e⟩ := Xc.close_some h
  rw [e]; rfl
theorem Xc.back_words (S : Xc.S) : (Xc.back S).2.words = S.words := by
  unfold Xc.back
  cases hc : Xc.close [Xc.tBegin] S with
  | none => rfl
  | some p => obtain ⟨k, D⟩ := p; exact Xc.close_words hc
theorem Xc.begins_fl {tag w : List UInt8} {S S1 : Xc.S} (h : Xc.FlW S.words) (hb : Xc.begins tag w S = some (.ok S1)) : Xc.FlW S1.words := by
  unfold Xc.begins at hb
  split at hb
  · injection hb with hb; injection hb with hb; subst hb; exact h.put _
  split at hb
  · cases hb
  split at hb
  · injection hb with hb; injection hb with hb; subst hb; exact h.put _
  · cases hb
theorem Xc.ends_fl {tag w : List UInt8} {S S1 : Xc.S} (h : Xc.FlW S.words) (hb : Xc.ends tag w S = some (some S1)) : Xc.FlW S1.words := by
  unfold Xc.ends at hb
  split at hb
  · injection hb with hb
    split at hb
    · cases hb
    · rename_i k D hc; injection hb with hb; subst hb
      exact Xc.FlW.put (by show Xc.FlW D.words; rw [Xc.close_words hc]; exact h) _
  split at hb
  · injection hb with hb
    split at hb
    · cases hb
    · rename_i k D hc; injection hb with hb; subst hb
      exact Xc.FlW.put (by rw [Xc.close_words hc]; exact h) _
  split at hb
  · injection hb with hb
    split at hb
    · cases hb
    · rename_i k D hc; injection hb with hb; subst hb
      exact Xc.FlW.put (by rw [Xc.close_words hc]; exact h) _
  split at hb
  · injection hb with hb
    split at hb
    · cases hb
    · rename_i k D hc; injection hb with hb; subst hb
      exact Xc.FlW.put (by rw [Xc.close_words hc]; exact h) _
  split at hb
  · injection hb with hb
    split at hb
    · cases hb
    · rename_i k D hc; injection hb with hb; subst hb
      exact Xc.FlW.put (by rw [Xc.back_words, Xc.close_words hc]; exact h) _
  · cases hb
theorem Xc.top_fl {w : List UInt8} {S S1 : Xc.S} (h : Xc.FlW S.words) (hb : Xc.top w S = .ok S1) : Xc.FlW S1.words := by
  unfold Xc.top at hb
  split at hb
  · unfold Xc.make at hb
    split at hb
    · cases hb
    unfold Xc.begin at hb
    by_cases h1 : Xc.word (Xc.num [] S).s = []
    · rw [if_pos h1] at hb; cases hb
    rw [if_neg h1] at hb
    by_cases h2 : Nm.right (Xc.word (Xc.num [] S).s) = false
    · rw [if_pos h2] at hb; cases hb
    rw [if_neg h2] at hb
    injection hb with hb
    subst hb
    unfold Xc.made_
    split
    · exact Xc.FlW.put (h.snoc _) _
    split
    · exact Xc.FlW.put (Xc.FlW.put (h.snoc _) _) _
    · exact Xc.FlW.put (Xc.FlW.put (h.snoc _) _) _
  · have hf : ∀ n, n < 8 → Xc.flag n (Xc.num [] S) = .ok S1 → Xc.FlW S1.words := fun n hn e => by
      unfold Xc.flag at e
      split at e
      · cases e
      split at e
      · cases e
      injection e with e
      subst e
      exact h.upd fun x hx => (Xc.or8 hx hn).2
    split at hb
    · cases hb
    split at hb
    · exact hf 1 (by decide) hb
    split at hb
    · exact hf 2 (by decide) hb
    split at hb
    · exact hf 4 (by decide) hb
    split at hb
    · cases hb
    · injection hb with hb; subst hb; exact h
theorem Xc.inside_fl {tag w : List UInt8} {S S1 : Xc.S} (h : Xc.FlW S.words) (hb : Xc.inside tag w S = .ok S1) : Xc.FlW S1.words := by
  unfold Xc.inside at hb
  cases h1 : Xc.begins tag w S with
  | some r => rw [h1] at hb; have hb : r = _ := hb; subst hb; exact Xc.begins_fl h h1
  | none =>
    rw [h1] at hb
    dsimp only at hb
    cases h2 : Xc.ends tag w S with
    | some o =>
      rw [h2] at hb
      cases o with
      | none => cases hb
      | some D => injection hb with hb; subst hb; exact Xc.ends_fl h h2
    | none =>
      rw [h2] at hb
      dsimp only at hb
      split at hb
      · cases hb
      unfold Xc.inside2 at hb
      split at hb
      · split at hb
        · cases hb
        · injection hb with hb; subst hb; exact Xc.FlW.put h _
      split at hb
      · injection hb with hb; subst hb; exact h.put _
      split at hb
      · injection hb with hb; subst hb; exact h.put _
      split at hb
      · cases hb
      split at hb
      · unfold Xc.quoted at hb
        split at hb
        · cases hb
        split at hb
        · injection hb with hb; subst hb; exact Xc.FlW.put h _
        · injection hb with hb; subst hb; exact Xc.FlW.put h _
      · injection hb with hb
        subst hb
        unfold Xc.other
        split
        · exact h.put _
        split
        · exact h.put _
        · exact h.put _
theorem Xc.one_fl {tag w : List UInt8} {S S1 : Xc.S} (h : Xc.FlW S.words) (hb : Xc.one tag w S = .ok S1) : Xc.FlW S1.words := by
  unfold Xc.one at hb
  split at hb
  · exact Xc.inside_fl h hb
  · exact Xc.top_fl h hb
theorem Xc.close_s {kinds : List (List UInt8)} {S S1 : Xc.S} {k : List UInt8} (h : Xc.close kinds S = some (k, S1)) : S1.s = S.s := by
  obtain ⟨_, r, _, _, e⟩ := Xc.close_some h
  rw [e]; rfl
theorem Xc.back_s (S : Xc.S) : (Xc.back S).2.s = S.s := by
  unfold Xc.back
  cases hc : Xc.close [Xc.tBegin] S with
  | none => rfl
  | some p => obtain ⟨k, D⟩ := p; exact Xc.close_s hc
theorem Xc.begins_s {tag w : List UInt8} {S S1 : Xc.S} (hb : Xc.begins tag w S = some (.ok S1)) : S1.s = S.s := by
  unfold Xc.begins at hb
  split at hb
  · injection hb with hb; injection hb with hb; subst hb; rfl
  split at hb
  · cases hb
  split at hb
  · injection hb with hb; injection hb with hb; subst hb; rfl
  · cases hb
theorem Xc.ends_s {tag w : List UInt8} {S S1 : Xc.S} (hb : Xc.ends tag w S = some (some S1)) : S1.s = S.s := by
  unfold Xc.ends at hb
  split at hb
  · injection hb with hb
    split at hb
    · cases hb
    · rename_i k D hc; injection hb with hb; subst hb; show D.s = S.s; exact Xc.close_s hc
  split at hb
  · injection hb with hb
    split at hb
    · cases hb
    · rename_i k D hc; injection hb with hb; subst hb; show D.s = S.s; exact Xc.close_s hc
  split at hb
  · injection hb with hb
    split at hb
    · cases hb
    · rename_i k D hc; injection hb with hb; subst hb; show D.s = S.s; exact Xc.close_s hc
  split at hb
  · injection hb with hb
    split at hb
    · cases hb
    · rename_i k D hc; injection hb with hb; subst hb; show D.s = S.s; exact Xc.close_s hc
  split at hb
  · injection hb with hb
    split at hb
    · cases hb
    · rename_i k D hc; injection hb with hb; subst hb; exact (Xc.back_s D).trans (Xc.close_s hc)
  · cases hb
theorem Xc.top_s {w : List UInt8} {S S1 : Xc.S} (hb : Xc.top w S = .ok S1) : S1.s.length ≤ S.s.length := by
  unfold Xc.top at hb
  split at hb
  · unfold Xc.make at hb
    split at hb
    · cases hb
    unfold Xc.begin at hb
    by_cases h1 : Xc.word (Xc.num [] S).s = []
    · rw [if_pos h1] at hb; cases hb
    rw [if_neg h1] at hb
    by_cases h2 : Nm.right (Xc.word (Xc.num [] S).s) = false
    · rw [if_pos h2] at hb; cases hb
    rw [if_neg h2] at hb
    injection hb with hb
    subst hb
    have := Xc.word_rest S.s
    unfold Xc.made_
    split
    · show (Xc.rest S.s).length ≤ _; omega
    split
    · show (Xc.rest S.s).length ≤ _; omega
    · show (Xc.rest S.s).length ≤ _; omega
  · have hf : ∀ n, Xc.flag n (Xc.num [] S) = .ok S1 → S1.s.length ≤ S.s.length := fun n e => by
      unfold Xc.flag at e
      split at e
      · cases e
      split at e
      · cases e
      injection e with e
      subst e
      exact Nat.le_refl _
    split at hb
    · cases hb
    split at hb
    · exact hf 1 hb
    split at hb
    · exact hf 2 hb
    split at hb
    · exact hf 4 hb
    split at hb
    · cases hb
    · injection hb with hb; subst hb; exact Nat.le_refl _
theorem Xc.inside_s {tag w : List UInt8} {S S1 : Xc.S} (hb : Xc.inside tag w S = .ok S1) : S1.s.length ≤ S.s.length := by
  unfold Xc.inside at hb
  cases h1 : Xc.begins tag w S with
  | some r => rw [h1] at hb; have hb : r = _ := hb; subst hb; rw [Xc.begins_s h1]; exact Nat.le_refl _
  | none =>
    rw [h1] at hb
    dsimp only at hb
    cases h2 : Xc.ends tag w S with
    | some o =>
      rw [h2] at hb
      cases o with
      | none => cases hb
      | some D => injection hb with hb; subst hb; rw [Xc.ends_s h2]; exact Nat.le_refl _
    | none =>
      rw [h2] at hb
      dsimp only at hb
      split at hb
      · cases hb
      unfold Xc.inside2 at hb
      split at hb
      · split at hb
        · cases hb
        · injection hb with hb; subst hb; exact Nat.le_refl _
      split at hb
      · injection hb with hb; subst hb; exact Nat.le_refl _
      split at hb
      · injection hb with hb; subst hb; exact Nat.le_refl _
      split at hb
      · cases hb
      split at hb
      · have hwr := Xc.word_rest S.s
        unfold Xc.quoted at hb
        split at hb
        · cases hb
        split at hb
        · injection hb with hb; subst hb; show (Xc.rest S.s).length ≤ _; omega
        · injection hb with hb; subst hb; show (Xc.rest S.s).length ≤ _; omega
      · injection hb with hb
        subst hb
        unfold Xc.other
        split
        · exact Nat.le_refl _
        split
        · exact Nat.le_refl _
        · exact Nat.le_refl _
theorem Xc.one_s {tag w : List UInt8} {S S1 : Xc.S} (hb : Xc.one tag w S = .ok S1) : S1.s.length ≤ S.s.length := by
  unfold Xc.one at hb
  split at hb
  · exact Xc.inside_s hb
  · exact Xc.top_s hb
/-- Between two words of a line. -/
structure Xc.Mid (F : Nat → Prop) (w : World) (gm : Nat) (tag : List UInt8) (N : Nat) (R0 : Xc.R) (u : Value) (W : World) (D : Xc.S) : Prop where
  word : u = .string ⟨(Xc.word D.s).toArray⟩
  obj : Xc.To F w gm tag (Xc.atRest (Xc.rest D.s) D) W
  lim : Xc.Lim 0 N D
  fl : Xc.FlW D.words
  line : ∃ n, Xc.line tag n D = R0
/-- What the walk does with a word. -/
theorem Xc.line_cases {tag : List UInt8} {n : Nat} {D : Xc.S} {R0 : Xc.R} (h : Xc.line tag n D = R0) (hns : R0 ≠ .stuck) :
    ((Xc.word D.s = [] ∨ Xc.word D.s = Xc.tNote) ∧ R0 = .ok (Xc.atRest (Xc.rest D.s) D)) ∨ (Xc.word D.s = Xc.tOpen ∧ ∃ m, Xc.line tag m (Xc.atRest (Xc.upTo 41 (Xc.rest D.s)) D) = R0) ∨
    (Xc.word D.s ≠ [] ∧ Xc.word D.s ≠ Xc.tNote ∧ Xc.word D.s ≠ Xc.tOpen ∧ ((∃ e, Xc.one tag (Xc.word D.s) (Xc.atRest (Xc.rest D.s) D) = .bad e ∧ R0 = .bad e) ∨ ∃ S1 m, Xc.one tag (Xc.word D.s) (Xc.atRest (Xc.rest D.s) D) = .ok S1 ∧ Xc.line tag m S1 = R0)) := by
  cases n with
  | zero => exact absurd h.symm hns
  | succ m =>
    unfold Xc.line at h
    by_cases h1 : Xc.word D.s = [] ∨ Xc.word D.s = Xc.tNote
    · rw [if_pos h1] at h; exact .inl ⟨h1, h.symm⟩
    rw [if_neg h1] at h
    by_cases h2 : Xc.word D.s = Xc.tOpen
    · rw [if_pos h2] at h; exact .inr (.inl ⟨h2, m, h⟩)
    rw [if_neg h2] at h
    refine .inr (.inr ⟨fun e => h1 (.inl e), fun e => h1 (.inr e), h2, ?_⟩)
    cases ho : Xc.one tag (Xc.word D.s) (Xc.atRest (Xc.rest D.s) D) with
    | bad e => rw [ho] at h; exact .inl ⟨e, rfl, h.symm⟩
    | stuck => rw [ho] at h; exact absurd h.symm hns
    | ok S1 => rw [ho] at h; exact .inr ⟨S1, m, rfl, h⟩
theorem Xc.bad_ne {tag w : List UInt8} {S : Xc.S} {e : Nat} (h : Xc.one tag w S = .bad e) : e = 40 ∨ e = 41 ∨ e = 44 := by
  unfold Xc.one at h
  split at h
  · unfold Xc.inside at h
    cases h1 : Xc.begins tag w S with
    | some r =>
      rw [h1] at h
      have h : r = _ := h
      subst h
      unfold Xc.begins at h1
      split at h1
      · cases h1
      split at h1
      · cases h1; exact .inr (.inr rfl)
      split at h1
      · cases h1
      · cases h1
    | none =>
      rw [h1] at h
      dsimp only at h
      cases h2 : Xc.ends tag w S with
      | some o =>
        rw [h2] at h
        cases o with
        | none => cases h; exact .inr (.inr rfl)
        | some D => cases h
      | none =>
        rw [h2] at h
        dsimp only at h
        split at h
        · cases h; exact .inr (.inr rfl)
        unfold Xc.inside2 at h
        split at h
        · split at h
          · cases h; exact .inr (.inr rfl)
          · cases h
        split at h
        · cases h
        split at h
        · cases h
        split at h
        · cases h
        split at h
        · unfold Xc.quoted at h
          split at h
          · cases h; exact .inl rfl
          split at h
          · cases h
          · cases h
        · cases h
  · unfold Xc.top at h
    split at h
    · unfold Xc.make at h
      split at h
      · cases h; exact .inl rfl
      split at h
      · cases h
      · rcases Xc.begin_bad h with e | e
        · exact .inl e
        · exact .inr (.inl e)
    · have hf : ∀ n, Xc.flag n (Xc.num [] S) = .bad e → e = 40 := fun n e => by
        unfold Xc.flag at e
        split at e
        · cases e; rfl
        split at e
        · cases e; rfl
        · cases e
      split at h
      · cases h; exact .inl rfl
      split at h
      · exact .inl (hf 1 h)
      split at h
      · exact .inl (hf 2 h)
      split at h
      · exact .inl (hf 4 h)
      split at h
      · cases h; exact .inl rfl
      · cases h
theorem Xc.line_measure {gm : Nat} {W W' : World} {a b a' b' : List UInt8} (h : W.cell? ⟨gm, 0, none⟩ = some (.string ⟨b.toArray⟩)) (h' : W'.cell? ⟨gm, 0, none⟩ = some (.string ⟨b'.toArray⟩)) (hl : a'.length + b'.length < a.length + b.length) :
    a'.length + (match W'.cell? ⟨gm, 0, none⟩ with | some (.string t) => t.size | _ => 0) < a.length + (match W.cell? ⟨gm, 0, none⟩ with | some (.string t) => t.size | _ => 0) := by
  rw [h', h]
  simpa [ByteArray.size] using hl
set_option maxRecDepth 100000 in
set_option maxHeartbeats 8000000 in
theorem xline_any {F : Nat → Prop} {w : World} {gm : Nat} {tag : List UInt8} {S : Xc.S} (h : Xc.Mk F w gm tag S) (hT : Xc.Tb F w) (ht : tag.length ≤ 31) (t : List UInt8) {N : Nat} (hlim : Xc.Lim 0 N (Xc.atRest t S)) (hN : N ≤ 50000) (hfl : Xc.FlW S.words) (hns : Xc.line tag (t.length + 1) (Xc.atRest t S) ≠ .stuck) :
    Calls Tryd.prog 45 #[.pointer (some ⟨gm, 0, none⟩), .string ⟨t.toArray⟩] w (Xc.RPost F w gm tag (Xc.line tag (t.length + 1) (Xc.atRest t S))) := by
  have hsn := h.seen
  have f0 := hsn.f 0
  have c0 := hsn.c0
  have htl : t.length ≤ 50000 := by have := hlim.opens; show (Xc.atRest t S).s.length ≤ _; omega
  obtain ⟨m1, s1⟩ := h.setF 0 (.string ⟨t.toArray⟩) (S' := Xc.atRest t S) rfl rfl (fun vw vo => by simp [Xc.cells, Xc.atRest])
  have hsn1 := m1.seen
  have CN := Lib.hid (xnext_any gm t (w.setCell ⟨gm, 0, none⟩ (.string ⟨t.toArray⟩)) hsn1.c0 (hsn1.f 0) (by omega))
  obtain ⟨m2, s2⟩ := m1.setF 0 (.string ⟨(Xc.rest t).toArray⟩) (S' := Xc.atRest (Xc.rest t) (Xc.atRest t S)) rfl rfl (fun vw vo => by simp [Xc.cells, Xc.atRest])
  have HM := Lib.hid (show Xc.To F w gm tag (Xc.atRest (Xc.rest (Xc.atRest t S).s) (Xc.atRest t S)) _ from ⟨F, m2, s1.trans s2⟩)
  have HLIM := Lib.hid hlim
  have HFL := Lib.hid (show Xc.FlW (Xc.atRest t S).words from hfl)
  have HTB := Lib.hid hT
  have HTAG := Lib.hid ht
  obtain ⟨R0, hR0⟩ : ∃ R0, Xc.line tag (t.length + 1) (Xc.atRest t S) = R0 := ⟨_, rfl⟩
  have HR := Lib.hid hR0
  rw [hR0] at hns ⊢
  have HNS := Lib.hid hns
  clear h hT ht hlim hfl hns hsn htl m1 s1 hsn1 m2 s2 hR0
  go_enter Tryd.func45, Tryd.ntmps45
  go_wp2_with (go_at_call 79; refine CN.out.mono ?_; rintro e w' ⟨rfl, rfl⟩)
  go_loopw [5] (fun u wr => ∃ D, Xc.Mid F w gm tag N R0 u wr D) (fun u wr => (match u with | .string t => t.size | _ => 0) + (match wr.cell? ⟨gm, 0, none⟩ with | some (.string t) => t.size | _ => 0))
  case atStart => exact ⟨Xc.atRest t S, rfl, HM.out, HLIM.out, HFL.out, _, HR.out⟩
  case round =>
    obtain ⟨D, rfl, ⟨F1, hm, hst⟩, hlim, hfl, n, hline⟩ := hrel
    have hsn := hm.seen
    have c0 := hsn.c0
    have f0 := hsn.f 0
    have c3 := hsn.c3
    have hwl := Xc.word_rest D.s
    have hsl : D.s.length ≤ 50000 := by have := hlim.opens; omega
    have hlim1 := hlim.take
    have hokA := hlim1.ok hN
    have HST1 := Lib.hid hst
    replace c3 : wr.cell? ⟨gm, 3, none⟩ = some (.bool D.within) := c3
    replace c0 : wr.cell? ⟨gm, 0, none⟩ = some (.string ⟨(Xc.rest D.s).toArray⟩) := c0
    rcases Xc.line_cases hline HNS.out with ⟨hend, hR⟩ | ⟨hop, m, hm2⟩ | ⟨h1, h2, h3, hcase⟩
    · have HP := Lib.hid hR
      have HM1 := Lib.hid hm
      clear hm hst hlim hlim1 hfl hline hR hokA hwl hsl hsn
      rcases hend with hend | hend
      · rw [hend]
        clear hend
        go_wp2_with fail
        go_ret
        rw [HP.out]
        exact ⟨rfl, F1, HM1.out, HST1.out⟩
      · rw [show Xc.word D.s = [92] from hend]
        clear hend
        go_wp2_with fail
        go_ret
        rw [HP.out]
        exact ⟨rfl, F1, HM1.out, HST1.out⟩
    · have hul := Xc.upTo_len 41 (Xc.rest D.s)
      have CU := Lib.hid (xupto_any gm (Xc.rest D.s) wr hsn.lt c0 f0 (by omega))
      have HM1 := Lib.hid hm
      have HLS := Lib.hid (hlim.shrink (Xc.upTo 41 (Xc.rest D.s)) (by omega))
      have HFS := Lib.hid hfl
      have HLN := Lib.hid hm2
      have HDEC := Lib.hid (show (Xc.word (Xc.upTo 41 (Xc.rest D.s))).length + (Xc.rest (Xc.upTo 41 (Xc.rest D.s))).length < ([40] : List UInt8).length + (Xc.rest D.s).length from by
        have := Xc.word_rest (Xc.upTo 41 (Xc.rest D.s))
        show _ < 1 + _
        omega)
      have HUL := Lib.hid (show (Xc.upTo 41 (Xc.rest D.s)).length ≤ 1000000000 from by omega)
      rw [show Xc.word D.s = [40] from hop]
      clear hop hm hst hlim hlim1 hfl hline hokA hwl hsl hsn hm2 hul
      go_wp2_with (go_at_call 80; refine CU.out.mono ?_; rintro e w' ⟨⟨v, rfl⟩, w1, hb1, rfl⟩)
      have hm1 := HM1.out.kept hb1
      have k0 := hm1.seen.c0
      have g0 := hm1.seen.f 0
      obtain ⟨m2, s2⟩ := hm1.setF 0 (.string ⟨(Xc.upTo 41 (Xc.rest D.s)).toArray⟩) (S' := Xc.atRest (Xc.upTo 41 (Xc.rest D.s)) (Xc.atRest (Xc.rest D.s) D)) rfl rfl (fun vw vo => by simp [Xc.cells, Xc.atRest])
      have CX := Lib.hid (xnext_any gm (Xc.upTo 41 (Xc.rest D.s)) (w1.setCell ⟨gm, 0, none⟩ (.string ⟨(Xc.upTo 41 (Xc.rest D.s)).toArray⟩)) m2.seen.c0 (m2.seen.f 0) HUL.out)
      obtain ⟨m3, s3⟩ := m2.setF 0 (.string ⟨(Xc.rest (Xc.upTo 41 (Xc.rest D.s))).toArray⟩) (S' := Xc.atRest (Xc.rest (Xc.upTo 41 (Xc.rest D.s))) (Xc.atRest (Xc.upTo 41 (Xc.rest D.s)) D)) rfl rfl (fun vw vo => by simp [Xc.cells, Xc.atRest])
      have HM3 := Lib.hid (show Xc.To F w gm tag (Xc.atRest (Xc.rest (Xc.upTo 41 (Xc.rest D.s))) (Xc.atRest (Xc.upTo 41 (Xc.rest D.s)) D)) _ from ⟨F1, m3, ((HST1.out.trans (Step.of_below hb1)).trans s2).trans s3⟩)
      have HC3 := Lib.hid m3.seen.c0
      clear hm1 m2 s2 m3 s3
      go_wp2_with (go_at_call 79; refine CX.out.mono ?_; rintro e w' ⟨rfl, rfl⟩)
      go_roundw
      case rel => exact ⟨Xc.atRest (Xc.upTo 41 (Xc.rest D.s)) D, rfl, HM3.out, HLS.out, HFS.out, m, HLN.out⟩
      case measure => exact Xc.line_measure (a := [40]) (a' := Xc.word (Xc.upTo 41 (Xc.rest D.s))) c0 HC3.out HDEC.out
    · have hyl : (Xc.word D.s).length ≤ 100000 := by omega
      have HSS := Lib.hid (fun (S1 : Xc.S) (ho : Xc.one tag (Xc.word D.s) (Xc.atRest (Xc.rest D.s) D) = .ok S1) => show S1.s.length ≤ (Xc.rest D.s).length ∧ 1 ≤ (Xc.word D.s).length from ⟨Xc.one_s ho, List.length_pos_iff.2 h1⟩)
      generalize hy : Xc.word D.s = y at *
      clear hy
      have e1 : (y != []) = true := by simpa using h1
      have e1' : (!y == []) = true := by simpa using h1
      have e1'' : y.isEmpty = false := by simpa using h1
      have e2 : (y != [92]) = true := by simpa using (show ¬ y = [92] from h2)
      have e2' : (!y == [92]) = true := by simpa using (show ¬ y = [92] from h2)
      have e3 : (y == [40]) = false := by simpa using (show ¬ y = [40] from h3)
      clear hsn hwl hsl
      cases hwi : D.within
      · have eo := show Xc.one tag y (Xc.atRest (Xc.rest D.s) D) = Xc.top y (Xc.atRest (Xc.rest D.s) D) from by unfold Xc.one; rw [show (Xc.atRest (Xc.rest D.s) D).within = false from hwi]; rfl
        have CO := Lib.hid (xtop_any hm hokA hfl y hyl)
        rw [hwi] at c3
        rcases hcase with ⟨e, ho, hR⟩ | ⟨S1, m, ho, hm2⟩
        · have HP := Lib.hid hR
          have hne0 : ((e : Int) != 0) = true := by rcases Xc.bad_ne ho with rfl | rfl | rfl <;> decide
          rw [eo] at ho
          rw [ho] at CO
          clear ho hR eo hline hm hlim hfl h1 h2 h3 hwi
          go_wp2_with (go_at_call 82; refine CO.out.mono ?_; rintro e w2 ⟨rfl, F2, st2⟩)
          go_ret
          rw [HP.out]
          exact ⟨rfl, F2, HST1.out.trans st2⟩
        · have HSL := Lib.hid (HSS.out S1 ho)
          have HLS := Lib.hid (hlim1.one HTAG.out hN h1 ho)
          have HFS := Lib.hid (Xc.one_fl (S := Xc.atRest (Xc.rest D.s) D) hfl ho)
          have HLN := Lib.hid hm2
          rw [eo] at ho
          rw [ho] at CO
          clear ho hm2 eo hline hm hlim hfl h1 h2 h3 hwi hlim1
          go_wp2_with (go_at_call 82; refine CO.out.mono ?_; rintro e w2 ⟨rfl, F2, hm2, st2⟩)
          have hs2 := hm2.seen
          have k0 := hs2.c0
          have CX := Lib.hid (xnext_any gm S1.s w2 hs2.c0 (hs2.f 0) (by have := HLS.out.opens; omega))
          obtain ⟨m3, s3⟩ := hm2.setF 0 (.string ⟨(Xc.rest S1.s).toArray⟩) (S' := Xc.atRest (Xc.rest S1.s) S1) rfl rfl (fun vw vo => by simp [Xc.cells, Xc.atRest])
          have HM3 := Lib.hid (show Xc.To F w gm tag (Xc.atRest (Xc.rest S1.s) S1) _ from ⟨F2, m3, (HST1.out.trans st2).trans s3⟩)
          have HC3 := Lib.hid m3.seen.c0
          have HDEC := Lib.hid (show (Xc.word S1.s).length + (Xc.rest S1.s).length < y.length + (Xc.rest D.s).length from by
            have := Xc.word_rest S1.s
            have := HSL.out
            omega)
          clear hm2 hs2 m3 s3
          go_wp2_with (go_at_call 79; refine CX.out.mono ?_; rintro e w' ⟨rfl, rfl⟩)
          go_roundw
          case rel => exact ⟨S1, rfl, HM3.out, HLS.out, HFS.out, m, HLN.out⟩
          case measure => exact Xc.line_measure (a := y) (a' := Xc.word S1.s) c0 HC3.out HDEC.out
      · have eo := show Xc.one tag y (Xc.atRest (Xc.rest D.s) D) = Xc.inside tag y (Xc.atRest (Xc.rest D.s) D) from by unfold Xc.one; rw [show (Xc.atRest (Xc.rest D.s) D).within = true from hwi]; rfl
        have hno : Xc.inside tag y (Xc.atRest (Xc.rest D.s) D) ≠ .stuck := by rw [← eo]; rcases hcase with ⟨e, ho, _⟩ | ⟨S1, m, ho, _⟩ <;> (rw [ho]; intro h; cases h)
        have CO := Lib.hid (xinside_any hm (hlim.has hwi) hokA (HTB.out.step hst) HTAG.out y hyl hno)
        rw [hwi] at c3
        rcases hcase with ⟨e, ho, hR⟩ | ⟨S1, m, ho, hm2⟩
        · have HP := Lib.hid hR
          have hne0 : ((e : Int) != 0) = true := by rcases Xc.bad_ne ho with rfl | rfl | rfl <;> decide
          rw [eo] at ho
          rw [ho] at CO
          clear ho hR eo hline hm hlim hfl h1 h2 h3 hwi hno
          go_wp2_with (go_at_call 81; refine CO.out.mono ?_; rintro e w2 ⟨rfl, F2, st2⟩)
          go_ret
          rw [HP.out]
          exact ⟨rfl, F2, HST1.out.trans st2⟩
        · have HSL := Lib.hid (HSS.out S1 ho)
          have HLS := Lib.hid (hlim1.one HTAG.out hN h1 ho)
          have HFS := Lib.hid (Xc.one_fl (S := Xc.atRest (Xc.rest D.s) D) hfl ho)
          have HLN := Lib.hid hm2
          rw [eo] at ho
          rw [ho] at CO
          clear ho hm2 eo hline hm hlim hfl h1 h2 h3 hwi hlim1 hno
          go_wp2_with (go_at_call 81; refine CO.out.mono ?_; rintro e w2 ⟨rfl, F2, hm2, st2⟩)
          have hs2 := hm2.seen
          have k0 := hs2.c0
          have CX := Lib.hid (xnext_any gm S1.s w2 hs2.c0 (hs2.f 0) (by have := HLS.out.opens; omega))
          obtain ⟨m3, s3⟩ := hm2.setF 0 (.string ⟨(Xc.rest S1.s).toArray⟩) (S' := Xc.atRest (Xc.rest S1.s) S1) rfl rfl (fun vw vo => by simp [Xc.cells, Xc.atRest])
          have HM3 := Lib.hid (show Xc.To F w gm tag (Xc.atRest (Xc.rest S1.s) S1) _ from ⟨F2, m3, (HST1.out.trans st2).trans s3⟩)
          have HC3 := Lib.hid m3.seen.c0
          have HDEC := Lib.hid (show (Xc.word S1.s).length + (Xc.rest S1.s).length < y.length + (Xc.rest D.s).length from by
            have := Xc.word_rest S1.s
            have := HSL.out
            omega)
          clear hm2 hs2 m3 s3
          go_wp2_with (go_at_call 79; refine CX.out.mono ?_; rintro e w' ⟨rfl, rfl⟩)
          go_roundw
          case rel => exact ⟨S1, rfl, HM3.out, HLS.out, HFS.out, m, HLN.out⟩
          case measure => exact Xc.line_measure (a := y) (a' := Xc.word S1.s) c0 HC3.out HDEC.out
end Go.Proofs.YtfafdkbnmfpbmaaDoor
