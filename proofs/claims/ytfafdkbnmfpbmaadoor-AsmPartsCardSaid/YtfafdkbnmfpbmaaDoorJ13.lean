/- Texts joined: AsParts, AsOk, AsPieces, AsSize. -/
import Derived.Test.YtfafdkbnmfpbmaaDoorJ6
import Derived.Test.YtfafdkbnmfpbmaaDoorJ11
import Derived.Test.YtfafdkbnmfpbmaaDoorJ12
import Derived.Test.YtfafdkbnmfpbmaaDoorJ10
/- Layer 7: lines behind others are the same bytes. Plain. -/
namespace Go.Proofs.YtfafdkbnmfpbmaaDoor
set_option linter.unusedVariables false
set_option linter.unusedSimpArgs false

/-- What a piece may be. -/
structure As.Wf (p : As.P) : Prop where
  code : p.code = true → p.bytes = [] ∧ p.kind ≤ 3
  data : p.code = false → p.kind = 0 ∨ ((p.kind = 4 ∨ p.kind = 5) ∧ p.bytes.length = 4)
def As.WfL (l : List As.P) : Prop := ∀ p ∈ l, As.Wf p
theorem As.WfL.snoc {l : List As.P} {p : As.P} (h : As.WfL l) (hp : As.Wf p) : As.WfL (l ++ [p]) := fun q hq => by
  rcases List.mem_append.1 hq with hq | hq
  · exact h q hq
  · rw [List.mem_singleton.1 hq]; exact hp
theorem As.next_p (x : As.L) : (As.next x).2.p = x.p := by unfold As.next; split <;> rfl
theorem As.reg_p (x : As.L) : (As.reg x).2.p = x.p := As.next_p x
theorem As.num_p (x : As.L) : (As.num x).2.p = x.p := As.next_p x
theorem As.name_p (x : As.L) : (As.name x).2.p = x.p := As.next_p x
theorem As.either_p (x : As.L) : (As.either x).2.p = x.p := by
  unfold As.either
  split
  · exact As.name_p x
  · split
    · rfl
    · exact As.name_p x
theorem As.sat_p (b : Bool) (x : As.L) : (As.sat b x).p = x.p := rfl
theorem As.Wf.code' (i : Is.Inst) (k : Nat) (n : List UInt8) (hk : k ≤ 3) : As.Wf ⟨true, i, [], k, n, []⟩ := ⟨fun _ => ⟨rfl, hk⟩, fun h => (by cases h)⟩
theorem As.Wf.raw (b : List UInt8) : As.Wf (As.raw b) := ⟨fun h => (by cases h), fun _ => .inl rfl⟩
theorem As.code_wf {i : Is.Inst} {x : As.L} (h : As.WfL x.p) : As.WfL (As.code i x).p := h.snoc (As.Wf.code' i 0 [] (by decide))
theorem As.to_wf {i : Is.Inst} {x : As.L} (h : As.WfL x.p) : As.WfL (As.to i x).p := by
  have : As.WfL (As.either x).2.p := by rw [As.either_p]; exact h
  exact this.snoc (As.Wf.code' _ _ _ (by split <;> decide))
theorem As.reg_wf {x : As.L} (h : As.WfL x.p) : As.WfL (As.reg x).2.p := by rw [As.reg_p]; exact h
theorem As.num_wf {x : As.L} (h : As.WfL x.p) : As.WfL (As.num x).2.p := by rw [As.num_p]; exact h
theorem As.name_wf {x : As.L} (h : As.WfL x.p) : As.WfL (As.name x).2.p := by rw [As.name_p]; exact h
theorem As.inst_wf (op : Int) {x : As.L} (h : As.WfL x.p) : As.WfL (As.inst op x).p := by
  unfold As.inst
  (repeat' split) <;> first
    | exact As.code_wf (As.num_wf (As.reg_wf (As.reg_wf h)))
    | exact As.code_wf (As.reg_wf (As.num_wf (As.reg_wf h)))
    | exact As.code_wf (As.reg_wf (As.reg_wf (As.reg_wf h)))
    | exact As.code_wf (As.num_wf (As.reg_wf h))
    | exact As.code_wf (As.num_wf h)
    | exact As.code_wf h
    | exact As.to_wf (As.reg_wf (As.reg_wf h))
    | exact As.to_wf (As.reg_wf h)
theorem As.number_wf (d n : Int) {x : As.L} (h : As.WfL x.p) : As.WfL (As.number d n x).p := by
  unfold As.number
  split
  · exact As.code_wf h
  · exact As.code_wf (As.code_wf h)
theorem As.pseudo_wf (w : List UInt8) {x y : As.L} (h : As.WfL x.p) (e : As.pseudo w x = some y) : As.WfL y.p := by
  unfold As.pseudo at e
  (repeat' split at e) <;> first
    | (injection e with e; subst e; first
        | exact As.number_wf _ _ (As.num_wf (As.reg_wf h))
        | exact ((As.name_wf (As.reg_wf h)).snoc (As.Wf.code' _ 2 _ (by decide))).snoc (As.Wf.code' _ 3 _ (by decide))
        | exact As.code_wf (As.reg_wf (As.reg_wf h))
        | exact As.to_wf (As.reg_wf h)
        | exact As.code_wf h
        | exact As.to_wf h)
    | cases e
theorem As.word1_wf {x : As.L} (h : As.WfL x.p) : As.WfL (As.word1 x).p := by
  have h1 : As.WfL (As.either x).2.p := by rw [As.either_p]; exact h
  refine h1.snoc ⟨fun h => (by cases h), fun _ => ?_⟩
  show (if _ then 0 else 4) = 0 ∨ _
  split
  · exact .inl rfl
  · exact .inr ⟨.inl rfl, rfl⟩
theorem As.byte1_wf {x : As.L} (h : As.WfL x.p) : As.WfL (As.byte1 x).p := by
  have h1 : As.WfL (As.num x).2.p := by rw [As.num_p]; exact h
  exact h1.snoc (As.Wf.raw _)
theorem As.loop_wf {f : As.L → As.L} (hf : ∀ {x : As.L}, As.WfL x.p → As.WfL (f x).p) : ∀ (n : Nat) {x : As.L}, As.WfL x.p → As.WfL (As.loop f n x).p
  | 0, x, h => h
  | n + 1, x, h => by
    unfold As.loop
    split
    · exact hf h
    · exact As.loop_wf hf n (hf h)
theorem As.data_wf (w : List UInt8) (a : Nat) {x y : As.L} (h : As.WfL x.p) (e : As.data w a x = some y) : As.WfL y.p := by
  have hn : As.WfL (As.next x).2.p := by rw [As.next_p]; exact h
  have hm := As.num_wf h
  have hs : As.WfL (As.name (As.name x).2).2.p := As.name_wf (As.name_wf h)
  unfold As.data at e
  split at e
  · injection e with e; subst e; exact As.loop_wf As.word1_wf _ h
  split at e
  · injection e with e; subst e; exact As.loop_wf As.byte1_wf _ h
  split at e
  · injection e with e; subst e
    split
    · exact hn.snoc (As.Wf.raw _)
    · exact hn
  split at e
  · injection e with e; subst e
    split
    · exact hm.snoc (As.Wf.raw _)
    · exact hm
  split at e
  · injection e with e; subst e; exact h.snoc (As.Wf.raw _)
  split at e
  · injection e with e; subst e
    exact hs.snoc ⟨fun h => (by cases h), fun _ => .inr ⟨.inr rfl, rfl⟩⟩
  · cases e
theorem As.pieces_wf {l : L6.Line} {a : Nat} {p : List As.P} (e : As.pieces l a = some p) : As.WfL p := by
  have h0 : As.WfL (⟨l.args, true, []⟩ : As.L).p := fun q hq => by cases hq
  unfold As.pieces at e
  split at e
  · injection e with e; subst e; exact fun q hq => by cases hq
  · split at e
    · cases e
    · rename_i y hy
      have hd : p = y.p := by
        unfold As.done at e
        split at e
        · injection e with e; exact e.symm
        · cases e
      subst hd
      unfold As.read at hy
      split at hy
      · injection hy with hy; subst hy; exact As.inst_wf _ h0
      · split at hy
        · rename_i z hz
          injection hy with hy; subst hy; exact As.pseudo_wf _ h0 hz
        · exact As.data_wf _ _ h0 hy
theorem As.four_len (v : Nat) : (As.four v).length = 4 := rfl
theorem As.piece_len {sy : List (List UInt8 × Nat)} {p : As.P} {a : Nat} (hw : As.Wf p) (h : (As.piece sy p a).2 = 0) : (As.piece sy p a).1.length = As.size1 p := by
  unfold As.piece at h ⊢
  unfold As.size1
  by_cases h1 : p.kind = 0 ∧ p.code = false
  · rw [if_pos h1, h1.2]; simp
  rw [if_neg h1] at h ⊢
  by_cases h2 : p.kind ≠ 0 ∧ As.look sy p.name = none
  · rw [if_pos h2] at h; cases h
  rw [if_neg h2] at h ⊢
  by_cases h5 : p.kind = 5
  · rw [if_pos h5] at h ⊢
    have hc : p.code = false := by
      cases hc : p.code
      · rfl
      · have := (hw.code hc).2; omega
    rw [hc]
    split at h
    · cases h
    · have hd := hw.data hc
      rcases hd with hd | hd
      · omega
      · simp [hd.2, As.four_len]
  rw [if_neg h5] at h ⊢
  by_cases h4 : p.kind = 4
  · rw [if_pos h4] at h ⊢
    have hc : p.code = false := by
      cases hc : p.code
      · rfl
      · have := (hw.code hc).2; omega
    rw [hc]
    rcases hw.data hc with hd | hd
    · omega
    · simp [hd.2, As.four_len]
  rw [if_neg h4] at h ⊢
  have hc : p.code = true := by
    cases hc : p.code
    · rcases hw.data hc with hd | ⟨hd | hd, _⟩
      · exact absurd ⟨hd, hc⟩ h1
      · exact absurd hd h4
      · exact absurd hd h5
    · rfl
  rw [(hw.code hc).1, hc]
  split at h
  · rename_i h3; rw [if_pos h3]; rfl
  · rename_i h3
    exfalso
    have : (As.aim p ((As.look sy p.name).getD 0) a).2 = 43 ∨ (As.aim p ((As.look sy p.name).getD 0) a).2 = 20 := by
      unfold As.aim
      (repeat' split) <;> simp
    rcases this with e | e <;> (rw [e] at h; cases h)
theorem As.size_cons (p : As.P) (r : List As.P) : As.size (p :: r) = As.size1 p + As.size r := by simp [As.size]
theorem As.puts_len {sy : List (List UInt8 × Nat)} {a : Nat} : ∀ {ps : List As.P} {b : List UInt8}, As.WfL ps → (As.puts sy a ps b).2 = 0 → (As.puts sy a ps b).1.length = b.length + As.size ps
  | [], b, _, _ => by simp [As.puts, As.size]
  | p :: r, b, hw, h => by
    unfold As.puts at h ⊢
    split at h
    · rename_i h1
      rw [if_pos h1]
      have := As.puts_len (ps := r) (fun q hq => hw q (by simp [hq])) h
      rw [this, List.length_append, As.piece_len (hw p (by simp)) h1, As.size_cons]
      omega
    · rename_i h1
      exact absurd h h1
/-- Where the lines end, counted from the place. -/
def As.upto (a : Nat) : Nat → List L6.Line → Nat
  | here, [] => here
  | here, l :: r => As.upto a (here + As.size ((As.pieces l (As.at32 (a + here))).getD [])) r
theorem As.second_len {sy : List (List UInt8 × Nat)} {a : Nat} : ∀ {l : List L6.Line} {i : Nat} {b b' : List UInt8}, As.second sy a i b l = .ok b' → b'.length = As.upto a b.length l
  | [], i, b, b', h => by
    unfold As.second at h
    injection h with h
    subst h
    rfl
  | x :: r, i, b, b', h => by
    unfold As.second at h
    split at h
    · rename_i h1
      have hw : As.WfL ((As.pieces x (As.at32 (a + b.length))).getD []) := by
        cases hp : As.pieces x (As.at32 (a + b.length)) with
        | none => exact fun q hq => by cases hq
        | some p => exact As.pieces_wf hp
      have := As.second_len h
      rw [this, As.puts_len hw h1]
      rfl
    · cases h
def As.keys (sy : List (List UInt8 × Nat)) : List (List UInt8) := sy.map fun p => p.1
theorem As.any_mem (sy : List (List UInt8 × Nat)) (s : List UInt8) : (sy.any fun p => p.1 == s) = true ↔ s ∈ As.keys sy := by
  unfold As.keys
  rw [List.any_eq_true, List.mem_map]
  constructor
  · rintro ⟨p, hp, e⟩; exact ⟨p, hp, by simpa using e⟩
  · rintro ⟨p, hp, e⟩; exact ⟨p, hp, by simpa using e⟩
theorem As.labels_nodup {a : Nat} : ∀ {t : List (List UInt8)} {sy sy1 : List (List UInt8 × Nat)}, (As.keys sy).Nodup → As.labels a t sy = some sy1 → (As.keys sy1).Nodup
  | [], sy, sy1, hn, h => by injection h with h; subst h; exact hn
  | s :: t, sy, sy1, hn, h => by
    unfold As.labels at h
    split at h
    · cases h
    · rename_i h1
      refine As.labels_nodup (t := t) ?_ h
      have hm : s ∉ As.keys sy := fun e => h1 ((As.any_mem sy s).2 e)
      unfold As.keys at hm hn ⊢
      rw [List.map_append, List.nodup_append]
      exact ⟨hn, by simp, fun x hx y hy e => hm (by
        have : y = s := by simpa using hy
        rw [← this, ← e]; exact hx)⟩
theorem As.labels_pre {a : Nat} (pre : List (List UInt8 × Nat)) : ∀ {t : List (List UInt8)} {sy sy1 : List (List UInt8 × Nat)}, As.labels a t sy = some sy1 → As.labels a t (pre ++ sy) = none ∨ As.labels a t (pre ++ sy) = some (pre ++ sy1)
  | [], sy, sy1, h => by injection h with h; subst h; exact .inr rfl
  | s :: t, sy, sy1, h => by
    unfold As.labels at h ⊢
    split at h
    · cases h
    · split
      · exact .inl rfl
      · rw [List.append_assoc]
        exact As.labels_pre pre h
theorem As.first_app {a : Nat} (m : List L6.Line) : ∀ {l : List L6.Line} {i here : Nat} {sy sy1 : List (List UInt8 × Nat)}, As.first a i here sy l = .ok sy1 → As.first a i here sy (l ++ m) = As.first a (i + l.length) (As.upto a here l) sy1 m
  | [], i, here, sy, sy1, h => by
    unfold As.first at h
    injection h with h
    subst h
    rfl
  | x :: r, i, here, sy, sy1, h => by
    rw [List.cons_append]
    unfold As.first at h
    rw [As.first]
    cases hl : As.labels (As.at32 (a + here)) x.labels sy with
    | none => rw [hl] at h; cases h
    | some sy2 =>
      rw [hl] at h
      dsimp only at h ⊢
      cases hp : As.pieces x (As.at32 (a + here)) with
      | none => rw [hp] at h; cases h
      | some p =>
        rw [hp] at h
        dsimp only at h ⊢
        split at h
        · cases h
        rename_i h1
        rw [if_neg h1]
        split at h
        · cases h
        rename_i h2
        rw [if_neg h2, As.first_app m h, As.upto, hp, List.length_cons]
        congr 1
        omega
theorem As.first_nodup {a : Nat} : ∀ {l : List L6.Line} {i here : Nat} {sy sy1 : List (List UInt8 × Nat)}, (As.keys sy).Nodup → As.first a i here sy l = .ok sy1 → (As.keys sy1).Nodup
  | [], i, here, sy, sy1, hn, h => by
    unfold As.first at h
    injection h with h
    subst h
    exact hn
  | x :: r, i, here, sy, sy1, hn, h => by
    unfold As.first at h
    cases hl : As.labels (As.at32 (a + here)) x.labels sy with
    | none => rw [hl] at h; cases h
    | some sy2 =>
      rw [hl] at h
      dsimp only at h
      cases hp : As.pieces x (As.at32 (a + here)) with
      | none => rw [hp] at h; cases h
      | some p =>
        rw [hp] at h
        dsimp only at h
        split at h
        · cases h
        split at h
        · cases h
        exact As.first_nodup (As.labels_nodup hn hl) h
/-- The first pass, with lines ahead. -/
theorem As.first_pre {a b : Nat} (pre : List (List UInt8 × Nat)) : ∀ {l : List L6.Line} {i j here : Nat} {sy sy1 : List (List UInt8 × Nat)}, As.first (a + b) j here sy l = .ok sy1 →
    (∃ n, As.first a i (b + here) (pre ++ sy) l = .bad n 42) ∨ (∃ n, As.first a i (b + here) (pre ++ sy) l = .bad n 6) ∨ As.first a i (b + here) (pre ++ sy) l = .ok (pre ++ sy1)
  | [], i, j, here, sy, sy1, h => by
    unfold As.first at h
    injection h with h
    subst h
    exact .inr (.inr rfl)
  | x :: r, i, j, here, sy, sy1, h => by
    unfold As.first at h
    rw [As.first]
    rw [show a + (b + here) = a + b + here by omega]
    cases hl : As.labels (As.at32 (a + b + here)) x.labels sy with
    | none => rw [hl] at h; cases h
    | some sy2 =>
      rw [hl] at h
      dsimp only at h
      rcases As.labels_pre pre hl with e | e
      · rw [e]; exact .inl ⟨_, rfl⟩
      rw [e]
      dsimp only
      cases hp : As.pieces x (As.at32 (a + b + here)) with
      | none => rw [hp] at h; cases h
      | some p =>
        rw [hp] at h
        dsimp only at h ⊢
        split at h
        · cases h
        rename_i h1
        rw [if_neg h1]
        split at h
        · cases h
        split
        · exact .inr (.inl ⟨_, rfl⟩)
        · rw [show b + here + As.size p = b + (here + As.size p) by omega]
          exact As.first_pre pre h
theorem As.look_app {sy ext : List (List UInt8 × Nat)} {s : List UInt8} {v : Nat} (h : As.look sy s = some v) : As.look (sy ++ ext) s = some v := by
  unfold As.look at h ⊢
  rw [List.find?_append]
  cases hf : sy.find? fun p => p.1 == s with
  | none => rw [hf] at h; cases h
  | some p => rw [hf] at h; exact h
theorem As.look_pre {pre sy : List (List UInt8 × Nat)} (hn : (As.keys (pre ++ sy)).Nodup) {s : List UInt8} {v : Nat} (h : As.look sy s = some v) : As.look (pre ++ sy) s = some v := by
  have hm : s ∈ As.keys sy := by
    unfold As.look at h
    cases hf : sy.find? fun p => p.1 == s with
    | none => rw [hf] at h; cases h
    | some p =>
      have h1 := List.mem_of_find?_eq_some hf
      have h2 := List.find?_some hf
      exact List.mem_map.2 ⟨p, h1, by simpa using h2⟩
  unfold As.look at h ⊢
  rw [List.find?_append]
  have h0 : pre.find? (fun p => p.1 == s) = none := by
    rw [List.find?_eq_none]
    intro p hp e
    have e : p.1 = s := by simpa using e
    unfold As.keys at hn hm
    rw [List.map_append, List.nodup_append] at hn
    exact hn.2.2 p.1 (List.mem_map.2 ⟨p, hp, rfl⟩) s hm e
  rw [h0]
  exact h
/-- A piece asks of symbols no more than that these are there. -/
theorem As.piece_more {sy sy' : List (List UInt8 × Nat)} (hs : ∀ s v, As.look sy s = some v → As.look sy' s = some v) {p : As.P} {a : Nat} (h : (As.piece sy p a).2 = 0) : As.piece sy' p a = As.piece sy p a := by
  unfold As.piece at h ⊢
  by_cases h1 : p.kind = 0 ∧ p.code = false
  · rw [if_pos h1, if_pos h1]
  rw [if_neg h1] at h ⊢
  rw [if_neg h1]
  by_cases h0 : p.kind = 0
  · have e1 : ∀ y, ¬ (p.kind ≠ 0 ∧ As.look y p.name = none) := fun y e => e.1 h0
    have e5 : ¬ p.kind = 5 := by omega
    have e4 : ¬ p.kind = 4 := by omega
    have ea : ∀ v, As.aim p v a = (p.inst, 20) := fun v => by unfold As.aim; rw [if_neg (by omega), if_neg (by omega), if_neg (by omega)]
    rw [if_neg (e1 _), if_neg (e1 _), if_neg e5, if_neg e5, if_neg e4, if_neg e4, ea, ea]
  · cases hl : As.look sy p.name with
    | none => rw [if_pos ⟨h0, hl⟩] at h; cases h
    | some v =>
      have hl' := hs _ _ hl
      have e1 : ¬ (p.kind ≠ 0 ∧ As.look sy p.name = none) := fun e => by rw [hl] at e; cases e.2
      have e2 : ¬ (p.kind ≠ 0 ∧ As.look sy' p.name = none) := fun e => by rw [hl'] at e; cases e.2
      rw [if_neg e1] at h
      rw [hl] at e1 h
      rw [hl'] at e2
      rw [if_neg e1, hl', if_neg e2]
      by_cases h5 : p.kind = 5
      · rw [if_pos h5] at h ⊢
        rw [if_pos h5]
        cases hw : As.look sy p.src with
        | none => rw [hw] at h; cases h
        | some w => rw [hs _ _ hw]
      · rw [if_neg h5, if_neg h5]
theorem As.puts_more {sy sy' : List (List UInt8 × Nat)} (hs : ∀ s v, As.look sy s = some v → As.look sy' s = some v) {a : Nat} : ∀ {ps : List As.P} {b : List UInt8}, (As.puts sy a ps b).2 = 0 → As.puts sy' a ps b = As.puts sy a ps b
  | [], b, _ => rfl
  | p :: r, b, h => by
    unfold As.puts at h ⊢
    split at h
    · rename_i h1
      rw [if_pos h1, As.piece_more hs h1, if_pos h1]
      exact As.puts_more hs h
    · rename_i h1
      exact absurd h h1
/-- Pieces behind other bytes. -/
theorem As.puts_pre {sy : List (List UInt8 × Nat)} {a : Nat} (pre : List UInt8) : ∀ (ps : List As.P) (b : List UInt8), As.puts sy a ps (pre ++ b) = (pre ++ (As.puts sy (a + pre.length) ps b).1, (As.puts sy (a + pre.length) ps b).2)
  | [], b => rfl
  | p :: r, b => by
    rw [As.puts, As.puts, List.length_append, ← Nat.add_assoc]
    split
    · rw [List.append_assoc]
      exact As.puts_pre pre r _
    · rfl
theorem As.second_more {sy sy' : List (List UInt8 × Nat)} (hs : ∀ s v, As.look sy s = some v → As.look sy' s = some v) {a : Nat} (pre : List UInt8) : ∀ {l : List L6.Line} {i j : Nat} {b b' : List UInt8}, As.second sy (a + pre.length) j b l = .ok b' → As.second sy' a i (pre ++ b) l = .ok (pre ++ b')
  | [], i, j, b, b', h => by
    unfold As.second at h
    injection h with h
    subst h
    rfl
  | x :: r, i, j, b, b', h => by
    unfold As.second at h
    rw [As.second, List.length_append, ← Nat.add_assoc, As.puts_pre]
    split at h
    · rename_i h1
      rw [As.puts_more hs h1, if_pos h1]
      exact As.second_more hs pre h
    · cases h
theorem As.second_app {sy : List (List UInt8 × Nat)} {a : Nat} (m : List L6.Line) : ∀ {l : List L6.Line} {i : Nat} {b b' : List UInt8}, As.second sy a i b l = .ok b' → As.second sy a i b (l ++ m) = As.second sy a (i + l.length) b' m
  | [], i, b, b', h => by
    unfold As.second at h
    injection h with h
    subst h
    rfl
  | x :: r, i, b, b', h => by
    unfold As.second at h
    rw [List.cons_append, As.second]
    split at h
    · rename_i h1
      rw [if_pos h1, As.second_app m h, List.length_cons]
      congr 1
      omega
    · cases h
theorem As.first_err {a : Nat} : ∀ {l : List L6.Line} {i here n : Nat} {sy : List (List UInt8 × Nat)}, As.first a i here sy l = .bad n 0 → False
  | [], i, here, n, sy, h => by unfold As.first at h; cases h
  | x :: r, i, here, n, sy, h => by
    unfold As.first at h
    split at h
    · cases h
    split at h
    · cases h
    split at h
    · cases h
    split at h
    · cases h
    exact As.first_err h
theorem As.second_err {a : Nat} {sy : List (List UInt8 × Nat)} : ∀ {l : List L6.Line} {i n : Nat} {b : List UInt8}, As.second sy a i b l = .bad n 0 → False
  | [], i, n, b, h => by unfold As.second at h; cases h
  | x :: r, i, n, b, h => by
    unfold As.second at h
    split at h
    · exact As.second_err h
    · rename_i h1
      injection h with _ h
      exact h1 h
/-- What is assembled. -/
theorem As.assemble_ok {l : List L6.Line} {a : Nat} (h : (As.assemble l a).err = 0) : a % 4 = 0 ∧ l.length ≤ 32768 ∧ ∃ sy b, As.first a 0 0 [] l = .ok sy ∧ As.second sy a 0 [] l = .ok b ∧ As.assemble l a = ⟨b, sy, 0, 0⟩ := by
  unfold As.assemble at h ⊢
  split at h
  · cases h
  rename_i h1
  rw [if_neg h1]
  refine ⟨by omega, by omega, ?_⟩
  unfold As.passes at h ⊢
  cases hf : As.first a 0 0 [] l with
  | bad n e =>
    rw [hf] at h
    have h : e = 0 := h
    subst h
    exfalso
    exact As.first_err hf
  | ok sy =>
    rw [hf] at h
    dsimp only at h ⊢
    cases hs : As.second sy a 0 [] l with
    | bad n e =>
      rw [hs] at h
      have h : e = 0 := h
      subst h
      exfalso
      exact As.second_err hs
    | ok b => exact ⟨sy, b, rfl, hs, rfl⟩
theorem As.parts_law {l m : List L6.Line} {a : Nat} (hx : (As.assemble l a).err = 0) (hy : (As.assemble m (a + (As.assemble l a).bytes.length)).err = 0) :
    (As.assemble (l ++ m) a).err = 42 ∨ (As.assemble (l ++ m) a).err = 6 ∨ As.assemble (l ++ m) a = ⟨(As.assemble l a).bytes ++ (As.assemble m (a + (As.assemble l a).bytes.length)).bytes, (As.assemble l a).syms ++ (As.assemble m (a + (As.assemble l a).bytes.length)).syms, 0, 0⟩ := by
  obtain ⟨ha, hl, sy, b, h1, h2, h3⟩ := As.assemble_ok hx
  rw [h3] at hy ⊢
  dsimp only at hy ⊢
  obtain ⟨hb, hm, sy2, b2, k1, k2, k3⟩ := As.assemble_ok hy
  rw [k3]
  dsimp only
  unfold As.assemble
  split
  · exact .inr (.inl rfl)
  unfold As.passes
  have hlen := As.second_len h2
  have hf := As.first_app m h1
  rw [show ([] : List UInt8).length = 0 from rfl] at hlen
  rw [← hlen] at hf
  have hp := As.first_pre (a := a) (b := b.length) sy (i := 0 + l.length) k1
  rw [Nat.add_zero, List.append_nil, ← hf] at hp
  rcases hp with ⟨n, e⟩ | ⟨n, e⟩ | e
  · rw [e]; exact .inl rfl
  · rw [e]; exact .inr (.inl rfl)
  · refine .inr (.inr ?_)
    have hn : (As.keys (sy ++ sy2)).Nodup := As.first_nodup (by unfold As.keys; exact List.nodup_nil) e
    rw [e]
    dsimp only
    have e1 := As.second_more (a := a) (sy' := sy ++ sy2) (fun s v hv => As.look_app hv) [] (i := 0) (b := []) (show As.second sy (a + ([] : List UInt8).length) 0 [] l = .ok b from h2)
    rw [List.nil_append, List.nil_append] at e1
    have e2 := As.second_more (a := a) (sy' := sy ++ sy2) (fun s v hv => As.look_pre hn hv) b (i := 0 + l.length) (b := []) k2
    rw [List.append_nil] at e2
    rw [As.second_app m e1, e2]
end Go.Proofs.YtfafdkbnmfpbmaaDoor

/- Layer 7: what pieces may hold. Plain. -/
namespace Go.Proofs.YtfafdkbnmfpbmaaDoor
set_option linter.unusedVariables false
set_option linter.unusedSimpArgs false

structure As.Ok (p : As.P) : Prop where
  inst : p.inst.ok
  bytes : p.bytes.length ≤ 2000000000
  name : p.name.length ≤ 1000000000
  src : p.src.length ≤ 1000000000
def As.OkL (l : List As.P) : Prop := ∀ p ∈ l, As.Ok p
def As.Lo (l : List (List UInt8)) : Prop := ∀ s ∈ l, s.length ≤ 1000000000
structure As.Fine (x : As.L) : Prop where
  p : As.OkL x.p
  l : As.Lo x.l
theorem As.OkL.snoc {l : List As.P} {p : As.P} (h : As.OkL l) (hp : As.Ok p) : As.OkL (l ++ [p]) := fun q hq => by
  rcases List.mem_append.1 hq with hq | hq
  · exact h q hq
  · rw [List.mem_singleton.1 hq]; exact hp
theorem As.Fine.put {x : As.L} (h : As.Fine x) {p : As.P} (hp : As.Ok p) : As.Fine (As.put p x) := ⟨h.p.snoc hp, h.l⟩
theorem As.Fine.sat {x : As.L} (h : As.Fine x) (b : Bool) : As.Fine (As.sat b x) := ⟨h.p, h.l⟩
theorem As.Fine.next {x : As.L} (h : As.Fine x) : As.Fine (As.next x).2 := ⟨by rw [As.next_p]; exact h.p, by rw [As.next_l]; exact fun s hs => h.l s (List.mem_of_mem_tail hs)⟩
theorem As.Fine.reg {x : As.L} (h : As.Fine x) : As.Fine (As.reg x).2 := h.next.sat _
theorem As.Fine.num {x : As.L} (h : As.Fine x) : As.Fine (As.num x).2 := h.next.sat _
theorem As.Fine.name {x : As.L} (h : As.Fine x) : As.Fine (As.name x).2 := h.next.sat _
theorem As.Fine.either {x : As.L} (h : As.Fine x) : As.Fine (As.either x).2 := ⟨by rw [As.either_p]; exact h.p, by rw [As.either_l]; exact fun s hs => h.l s (List.mem_of_mem_tail hs)⟩
theorem L6.number_range (s : List UInt8) : -2147483648 ≤ (L6.number s).1 ∧ (L6.number s).1 ≤ 4294967295 := by
  unfold L6.number
  split
  · have := (s.getD 1 0).toNat_lt
    dsimp only
    omega
  · split
    · rename_i h
      simp only [Bool.and_eq_true, decide_eq_true_eq] at h
      exact h.2
    · decide
theorem As.num_rng (x : As.L) : -2147483648 ≤ (As.num x).1 ∧ (As.num x).1 ≤ 4294967295 := L6.number_range _
theorem As.either_rng (x : As.L) : -2147483648 ≤ (As.either x).1.1 ∧ (As.either x).1.1 ≤ 4294967295 := by
  unfold As.either
  split
  · dsimp only; omega
  · split
    · exact L6.number_range _
    · dsimp only; omega
theorem L6.rows_le2 (c : UInt8) (n : Nat) : (L6.rowsV c n).1 ≤ 100 := by
  unfold L6.rowsV
  repeat' split
  all_goals (dsimp only; omega)
theorem L6.regV_le (s : List UInt8) : (L6.regV s).1 ≤ 100 := by
  unfold L6.regV
  split
  · decide
  split
  · decide
  split
  · decide
  split
  · decide
  split
  · decide
  split
  · decide
  cases (L6.countedV s.tail).2
  · exact Nat.zero_le _
  · exact L6.rows_le2 _ _
theorem As.reg_le (x : As.L) : ((As.reg x).1 : Int) ≤ 100 := by have := L6.regV_le (As.next x).1; show (((L6.regV (As.next x).1).1 : Nat) : Int) ≤ 100; omega
theorem As.ok_inst {op rd rs1 rs2 imm : Int} (h0 : -100 ≤ op ∧ op ≤ 100) (h1 : 0 ≤ rd ∧ rd ≤ 100) (h2 : 0 ≤ rs1 ∧ rs1 ≤ 100) (h3 : 0 ≤ rs2 ∧ rs2 ≤ 100) (h4 : -4294967296 ≤ imm ∧ imm ≤ 4294967296) : Is.Inst.ok ⟨op, rd, rs1, rs2, imm⟩ := by
  constructor <;> unfold Is.in64 <;> dsimp only <;> omega
theorem As.reg_rng (x : As.L) : 0 ≤ ((As.reg x).1 : Int) ∧ ((As.reg x).1 : Int) ≤ 100 := ⟨by omega, As.reg_le x⟩
theorem As.lo_rng (n : Int) : -4294967296 ≤ As.lo n ∧ As.lo n ≤ 4294967296 := by unfold As.lo; omega
theorem As.hi_rng (n : Int) : -4294967296 ≤ As.hi n ∧ As.hi n ≤ 4294967296 := by unfold As.hi; omega
theorem As.rng {n : Int} (h : -2147483648 ≤ n ∧ n ≤ 4294967295) : -4294967296 ≤ n ∧ n ≤ 4294967296 := by omega
theorem As.z_rng : (0 : Int) ≤ 0 ∧ (0 : Int) ≤ 100 := by decide
theorem As.i_rng : (-4294967296 : Int) ≤ 0 ∧ (0 : Int) ≤ 4294967296 := by decide
theorem As.Ok.code {i : Is.Inst} (h : i.ok) (k : Nat) {n : List UInt8} (hn : n.length ≤ 1000000000) : As.Ok ⟨true, i, [], k, n, []⟩ := ⟨h, Nat.zero_le _, hn, Nat.zero_le _⟩
theorem As.no_ok : As.no.ok := by constructor <;> decide
theorem As.Ok.data {b : List UInt8} (h : b.length ≤ 2000000000) (k : Nat) {n s : List UInt8} (hn : n.length ≤ 1000000000) (hs : s.length ≤ 1000000000) : As.Ok ⟨false, As.no, b, k, n, s⟩ := ⟨As.no_ok, h, hn, hs⟩
theorem As.next_lo {x : As.L} (h : As.Fine x) : (As.next x).1.length ≤ 1000000000 := by
  unfold As.next
  split
  · exact Nat.zero_le _
  · rename_i s t e
    exact h.l s (by rw [e]; simp)
theorem As.name_lo {x : As.L} (h : As.Fine x) : (As.name x).1.length ≤ 1000000000 := As.next_lo h
theorem As.either_lo {x : As.L} (h : As.Fine x) : (As.either x).1.2.length ≤ 1000000000 := by
  unfold As.either
  split
  · exact As.name_lo h
  · split
    · exact Nat.zero_le _
    · exact As.name_lo h
theorem As.Fine.code {x : As.L} (h : As.Fine x) {i : Is.Inst} (hi : i.ok) : As.Fine (As.code i x) := h.put (As.Ok.code hi _ (Nat.zero_le _))
theorem As.Fine.to {x : As.L} (h : As.Fine x) {i : Is.Inst} (hi : i.ok) : As.Fine (As.to i x) := by
  refine h.either.put ⟨?_, Nat.zero_le _, As.either_lo h, Nat.zero_le _⟩
  have := As.either_rng x
  exact ⟨hi.op, hi.rd, hi.rs1, hi.rs2, by show Is.in64 (As.either x).1.1; unfold Is.in64; omega⟩
theorem As.inst_fine {op : Int} (ho : -100 ≤ op ∧ op ≤ 100) {x : As.L} (h : As.Fine x) : As.Fine (As.inst op x) := by
  unfold As.inst
  (repeat' split) <;> first
    | exact (h.reg.reg.num).code (As.ok_inst ho (As.reg_rng _) (As.reg_rng _) As.z_rng (As.rng (As.num_rng _)))
    | exact (h.reg.num.reg).code (As.ok_inst ho (As.reg_rng _) (As.reg_rng _) As.z_rng (As.rng (As.num_rng _)))
    | exact (h.reg.num.reg).code (As.ok_inst ho As.z_rng (As.reg_rng _) (As.reg_rng _) (As.rng (As.num_rng _)))
    | exact (h.reg.reg.reg).code (As.ok_inst ho (As.reg_rng _) (As.reg_rng _) (As.reg_rng _) As.i_rng)
    | exact (h.reg.num).code (As.ok_inst ho (As.reg_rng _) As.z_rng As.z_rng (As.rng (As.num_rng _)))
    | exact (h.num).code (As.ok_inst ho As.z_rng As.z_rng As.z_rng (As.rng (As.num_rng _)))
    | exact h.code (As.ok_inst ho As.z_rng As.z_rng As.z_rng As.i_rng)
    | exact (h.reg.reg).to (As.ok_inst ho As.z_rng (As.reg_rng _) (As.reg_rng _) As.i_rng)
    | exact (h.reg).to (As.ok_inst ho (As.reg_rng _) As.z_rng As.z_rng As.i_rng)
theorem As.number_fine (d : Int) (n : Int) (hd : 0 ≤ d ∧ d ≤ 100) {x : As.L} (h : As.Fine x) : As.Fine (As.number d n x) := by
  unfold As.number
  split
  · exact h.code (As.ok_inst (by decide) hd As.z_rng As.z_rng (by omega))
  · exact (h.code (As.ok_inst (by decide) hd As.z_rng As.z_rng (As.hi_rng n))).code (As.ok_inst (by decide) hd hd As.z_rng (As.lo_rng n))
theorem As.pseudo_fine (w : List UInt8) {x y : As.L} (h : As.Fine x) (e : As.pseudo w x = some y) : As.Fine y := by
  unfold As.pseudo at e
  (repeat' split at e) <;> first
    | (injection e with e; subst e; first
        | exact As.number_fine _ _ (As.reg_rng _) h.reg.num
        | exact (h.reg.name.put (As.Ok.code (As.ok_inst (by decide) (As.reg_rng _) As.z_rng As.z_rng As.i_rng) _ (As.name_lo h.reg))).put (As.Ok.code (As.ok_inst (by decide) (As.reg_rng _) (As.reg_rng _) As.z_rng As.i_rng) _ (As.name_lo h.reg))
        | exact h.reg.reg.code (As.ok_inst (by decide) (As.reg_rng _) (As.reg_rng _) As.z_rng (by decide))
        | exact h.reg.reg.code (As.ok_inst (by decide) (As.reg_rng _) As.z_rng (As.reg_rng _) (by decide))
        | exact h.reg.to (As.ok_inst (by decide) As.z_rng (As.reg_rng _) As.z_rng As.i_rng)
        | exact h.code (As.ok_inst (by decide) As.z_rng (by decide) As.z_rng As.i_rng)
        | exact h.to (As.ok_inst (by decide) (by decide) As.z_rng As.z_rng As.i_rng))
    | cases e
theorem As.word1_fine {x : As.L} (h : As.Fine x) : As.Fine (As.word1 x) := h.either.put (As.Ok.data (by rw [As.four_len]; decide) _ (As.either_lo h) (Nat.zero_le _))
theorem As.byte1_fine {x : As.L} (h : As.Fine x) : As.Fine (As.byte1 x) := (h.num.sat _).put (As.Ok.data (by show 1 ≤ _; decide) _ (Nat.zero_le _) (Nat.zero_le _))
theorem As.loop_fine {f : As.L → As.L} (hf : ∀ {x : As.L}, As.Fine x → As.Fine (f x)) : ∀ (n : Nat) {x : As.L}, As.Fine x → As.Fine (As.loop f n x)
  | 0, x, h => h
  | n + 1, x, h => by
    unfold As.loop
    split
    · exact hf h
    · exact As.loop_fine hf n (hf h)
theorem As.data_fine (w : List UInt8) (a : Nat) {x y : As.L} (h : As.Fine x) (e : As.data w a x = some y) : As.Fine y := by
  unfold As.data at e
  split at e
  · injection e with e; subst e; exact As.loop_fine As.word1_fine _ h
  split at e
  · injection e with e; subst e; exact As.loop_fine As.byte1_fine _ h
  split at e
  · injection e with e; subst e
    split
    · refine (h.next.sat _).put (As.Ok.data ?_ _ (Nat.zero_le _) (Nat.zero_le _))
      have := As.next_lo h
      simp only [List.length_drop, List.length_take]
      omega
    · exact h.next.sat _
  split at e
  · injection e with e; subst e
    split
    · rename_i hc
      refine (h.num.sat _).put (As.Ok.data ?_ _ (Nat.zero_le _) (Nat.zero_le _))
      unfold As.spaceOk at hc
      simp only [Bool.and_eq_true, decide_eq_true_eq] at hc
      rw [List.length_replicate]
      omega
    · exact h.num.sat _
  split at e
  · injection e with e; subst e
    exact h.put (As.Ok.data (by rw [List.length_replicate]; omega) _ (Nat.zero_le _) (Nat.zero_le _))
  split at e
  · injection e with e; subst e
    exact h.name.name.put (As.Ok.data (by decide) _ (As.name_lo h.name) (As.name_lo h))
  · cases e
theorem As.found_rng (s : ByteArray) : -100 ≤ Is.found s ∧ Is.found s ≤ 100 := by
  unfold Is.found
  split <;> omega
theorem As.pieces_ok {l : L6.Line} {a : Nat} {p : List As.P} (hl : As.Lo l.args) (e : As.pieces l a = some p) : As.OkL p := by
  have h0 : As.Fine ⟨l.args, true, []⟩ := ⟨(fun q hq => (by cases hq)), hl⟩
  unfold As.pieces at e
  split at e
  · injection e with e; subst e; exact fun q hq => by cases hq
  · split at e
    · cases e
    · rename_i y hy
      have hd : p = y.p := by
        unfold As.done at e
        split at e
        · injection e with e; exact e.symm
        · cases e
      subst hd
      unfold As.read at hy
      split at hy
      · injection hy with hy; subst hy; exact (As.inst_fine (As.found_rng _) h0).p
      · split at hy
        · rename_i z hz
          injection hy with hy; subst hy; exact (As.pseudo_fine _ h0 hz).p
        · exact (As.data_fine _ _ h0 hy).p
/-- How many pieces. -/
theorem As.to_cnt (i : Is.Inst) (x : As.L) : (As.to i x).p.length = x.p.length + 1 := by unfold As.to; rw [As.put_len, As.either_p]
theorem As.code_cnt (i : Is.Inst) (x : As.L) : (As.code i x).p.length = x.p.length + 1 := As.put_len _ _
theorem As.inst_cnt (op : Int) (x : As.L) : (As.inst op x).p.length = x.p.length + 1 := by
  unfold As.inst
  (repeat' split) <;> simp only [As.to_cnt, As.code_cnt, As.reg_p, As.num_p]
theorem As.number_cnt (d n : Int) (x : As.L) : (As.number d n x).p.length ≤ x.p.length + 2 := by
  unfold As.number
  split
  · rw [As.code_cnt]; omega
  · rw [As.code_cnt, As.code_cnt]; omega
theorem As.pseudo_cnt (w : List UInt8) {x y : As.L} (e : As.pseudo w x = some y) : y.p.length ≤ x.p.length + 2 := by
  unfold As.pseudo at e
  (repeat' split at e) <;> first
    | (injection e with e; subst e; first
        | (refine Nat.le_trans (As.number_cnt _ _ _) ?_; rw [As.num_p, As.reg_p]; omega)
        | (simp only [As.put_len, As.to_cnt, As.code_cnt, As.reg_p, As.num_p, As.name_p]; omega))
    | cases e
theorem As.loop_cnt {f : As.L → As.L} (hf : ∀ x, (f x).p.length = x.p.length + 1) (hl : ∀ x, (f x).l = x.l.tail) : ∀ (n : Nat) (x : As.L), (As.loop f n x).p.length ≤ x.p.length + x.l.length + 1
  | 0, x => by unfold As.loop; omega
  | n + 1, x => by
    rw [As.loop_one]
    split
    · rw [hf]; omega
    · rename_i he
      have h1 := As.loop_cnt hf hl n (f x)
      rw [hf, hl, List.length_tail] at h1
      have h2 : 0 < (f x).l.length := List.length_pos_iff.2 he
      rw [hl, List.length_tail] at h2
      omega
theorem As.data_cnt (w : List UInt8) (a : Nat) {x y : As.L} (e : As.data w a x = some y) : y.p.length ≤ x.p.length + x.l.length + 1 := by
  unfold As.data at e
  split at e
  · injection e with e; subst e; exact As.loop_cnt (fun x => by unfold As.word1; rw [As.put_len, As.either_p]) As.word1_l _ _
  split at e
  · injection e with e; subst e; exact As.loop_cnt (fun x => by unfold As.byte1; rw [As.put_len]; show (As.num x).2.p.length + 1 = _; rw [As.num_p]) As.byte1_l _ _
  split at e
  · injection e with e; subst e
    split
    · rw [As.put_len]; show (As.next x).2.p.length + 1 ≤ _; rw [As.next_p]; omega
    · show (As.next x).2.p.length ≤ _; rw [As.next_p]; omega
  split at e
  · injection e with e; subst e
    split
    · rw [As.put_len]; show (As.num x).2.p.length + 1 ≤ _; rw [As.num_p]; omega
    · show (As.num x).2.p.length ≤ _; rw [As.num_p]; omega
  split at e
  · injection e with e; subst e; rw [As.put_len]; omega
  split at e
  · injection e with e; subst e; rw [As.put_len, As.name_p, As.name_p]; omega
  · cases e
theorem As.pieces_cnt {l : L6.Line} {a : Nat} {p : List As.P} (e : As.pieces l a = some p) : p.length ≤ l.args.length + 2 := by
  unfold As.pieces at e
  split at e
  · injection e with e; subst e; exact Nat.zero_le _
  · split at e
    · cases e
    · rename_i y hy
      have hd : p = y.p := by
        unfold As.done at e
        split at e
        · injection e with e; exact e.symm
        · cases e
      subst hd
      unfold As.read at hy
      split at hy
      · injection hy with hy; subst hy; rw [As.inst_cnt]; simp
      · split at hy
        · rename_i z hz
          injection hy with hy; subst hy; have := As.pseudo_cnt _ hz; simp at this; omega
        · have := As.data_cnt _ _ hy; simp at this; omega
theorem As.size_le : ∀ {l : List As.P}, As.OkL l → As.size l ≤ l.length * 2000000004
  | [], _ => by simp [As.size]
  | p :: t, h => by
    have h1 := (h p (by simp)).bytes
    have h2 := As.size_le (fun q hq => h q (by simp [hq]) : As.OkL t)
    rw [As.size_cons, List.length_cons]
    unfold As.size1
    split <;> omega
/-- All places fit. -/
def As.Low (sy : List (List UInt8 × Nat)) : Prop := ∀ p ∈ sy, p.2 < 4294967296
theorem As.Low.look {sy : List (List UInt8 × Nat)} (h : As.Low sy) {s : List UInt8} {v : Nat} (e : As.look sy s = some v) : v < 4294967296 := by
  unfold As.look at e
  cases hf : sy.find? (fun p => p.1 == s) with
  | none => rw [hf] at e; cases e
  | some p =>
    rw [hf] at e
    injection e with e
    rw [← e]
    exact h p (List.mem_of_find?_eq_some hf)
theorem As.labels_low {a : Nat} (ha : a < 4294967296) : ∀ {t : List (List UInt8)} {sy sy1 : List (List UInt8 × Nat)}, As.Low sy → As.labels a t sy = some sy1 → As.Low sy1
  | [], sy, sy1, h, e => by injection e with e; subst e; exact h
  | s :: t, sy, sy1, h, e => by
    unfold As.labels at e
    split at e
    · cases e
    · refine As.labels_low ha ?_ e
      intro p hp
      rcases List.mem_append.1 hp with hp | hp
      · exact h p hp
      · rw [List.mem_singleton.1 hp]; exact ha
theorem As.first_step {a i here : Nat} {sy sy2 : List (List UInt8 × Nat)} {l : L6.Line} {r : List L6.Line} (e : As.first a i here sy (l :: r) = .ok sy2) :
    ∃ sy1 p, As.labels (As.at32 (a + here)) l.labels sy = some sy1 ∧ As.pieces l (As.at32 (a + here)) = some p ∧ here + As.size p ≤ 131072 ∧ As.first a (i + 1) (here + As.size p) sy1 r = .ok sy2 := by
  unfold As.first at e
  cases hl : As.labels (As.at32 (a + here)) l.labels sy with
  | none => rw [hl] at e; cases e
  | some sy1 =>
    rw [hl] at e
    dsimp only at e
    cases hp : As.pieces l (As.at32 (a + here)) with
    | none => rw [hp] at e; cases e
    | some p =>
      rw [hp] at e
      dsimp only at e
      split at e
      · cases e
      · split at e
        · cases e
        · exact ⟨sy1, p, rfl, rfl, by omega, e⟩
theorem As.first_low {a : Nat} : ∀ {l : List L6.Line} {i here : Nat} {sy sy2 : List (List UInt8 × Nat)}, As.Low sy → As.first a i here sy l = .ok sy2 → As.Low sy2
  | [], i, here, sy, sy2, h, e => by injection e with e; subst e; exact h
  | x :: r, i, here, sy, sy2, h, e => by
    obtain ⟨sy1, p, h1, _, _, h2⟩ := As.first_step e
    exact As.first_low (As.labels_low (by unfold As.at32; omega) h h1) h2
end Go.Proofs.YtfafdkbnmfpbmaaDoor

/- Layer 7: the pieces of a line. -/
namespace Go.Proofs.YtfafdkbnmfpbmaaDoor
open Go.RowKit Kit
set_option linter.unusedVariables false
set_option linter.unusedSimpArgs false

/-- What pieces hands back. -/
def As.PiecesPost (w : World) (r : Option (List As.P)) (e : Ending) (w' : World) : Prop :=
  match r with
  | none => e = .returned (.tuple #[.slice none 0 0, .int .i64 40]) ∧ Below w.heap.size w w'
  | some ps => ∃ v, e = .returned (.tuple #[v, .int .i64 0]) ∧ RdP w.heap.size w' v ps ∧ Below w.heap.size w w'
theorem As.mk_start (w : World) (t : TypeId) (cs : Array Value) (va : Value) (l : List (List UInt8)) (h : RdS w va l) :
    As.Mk (fun k => k = w.heap.size + 1) ((w.alloc (.cells cs t)).alloc (.cells #[va, .bool true, .slice none 0 0] 168)) (w.heap.size + 1) ⟨l, true, []⟩ := by
  have h0 : Below w.heap.size w (w.alloc (.cells cs t)) := (Below.refl _ _).alloc (Nat.le_refl _) _
  have h1 : Below w.heap.size w ((w.alloc (.cells cs t)).alloc (.cells #[va, .bool true, .slice none 0 0] 168)) := h0.alloc (by simp) _
  have hbk := Bk.fresh (w.alloc (.cells cs t)) 168 #[va, .bool true, .slice none 0 0]
  rw [World.size_alloc] at hbk
  refine ⟨⟨va, .slice none 0 0, [], hbk, ⟨h.kept h1, fun g off n c e hn hg => ?_⟩, World.ownsRow_nil _ _ _ _, rfl, fun k hk => by cases hk⟩, rfl, fun k hk => by subst hk; exact hbk.lt⟩
  obtain ⟨_, A', c', e', _, _, h4⟩ := h
  rw [e] at e'
  injection e' with e1 e2 e3
  obtain ⟨g', off', e4, hlt, _⟩ := h4 (by omega)
  rw [← e1] at e4
  injection e4 with e4
  injection e4 with e4 _
  omega
/-- What is read is done. -/
theorem As.tail_of {w w2 w3 : World} {gx : Nat} {y : As.L} (hto : As.To (fun k => k = gx) w2 gx y w3) (hgx : w.heap.size ≤ gx) (hlt : gx < w2.heap.size) (hb : Below w.heap.size w w2) :
    ∃ A c Ap cp, w3.cell? ⟨gx, 0, none⟩ = some (.slice A y.l.length c) ∧ w3.cell? ⟨gx, 1, none⟩ = some (.bool y.ok) ∧ w3.cell? ⟨gx, 2, none⟩ = some (.slice Ap y.p.length cp) ∧ Hid (RdP w.heap.size w3 (.slice Ap y.p.length cp) y.p ∧ Below w.heap.size w w3) := by
  obtain ⟨F', hm, hst⟩ := hto
  have hF : ∀ k, F' k → gx ≤ k := fun k hk => (hst.new k hk).elim (fun e => by omega) (fun e => by omega)
  obtain ⟨vl, vp, h1, h2, h3⟩ := hm.out hF
  obtain ⟨A, c, rfl⟩ := Rd.form h2
  obtain ⟨Ap, cp, rfl⟩ := h3.form
  have hb3 : Below w.heap.size w w3 := hb.trans (hst.below (fun k hk => by omega) hb.size)
  refine ⟨A, c, Ap, cp, h1.cell 0, h1.cell 1, h1.cell 2, Lib.hid ⟨?_, hb3⟩⟩
  obtain ⟨cs, q1, q2, q3⟩ := h3
  exact ⟨cs, q1, fun g off n c e hn => Nat.le_trans hgx (q2 g off n c e hn), q3.map fun u b hu => ⟨hu.1, fun g off n c e hn => Nat.le_trans hgx (hu.2 g off n c e hn)⟩⟩
theorem aname_data {s : List UInt8} (a : Nat) (x : As.L) (h : s = As.tWord ∨ s = As.tByte ∨ s = As.tText ∨ s = As.tSpace ∨ s = As.tAlign ∨ s = As.tSpan) : (As.data s a x).isSome = true := by
  unfold As.data
  rcases h with h | h | h | h | h | h <;> subst h <;> rfl
set_option maxRecDepth 100000 in
set_option maxHeartbeats 8000000 in
theorem apieces_any (vl va : Value) (x : L6.Line) (a : Nat) (w : World) (h : RdS w va x.args) (hT : L6.Tab w) (hvl : ∃ A n c, vl = .slice A n c) (hl : x.args.length ≤ 600000000) (hlo : As.Lo x.args) (ha : a < 4294967296) :
    Calls Tryd.prog 84 #[.agg #[vl, .string ⟨x.word.toArray⟩, va], .int .u32 (a : Int)] w (As.PiecesPost w (As.pieces x a)) := by
  obtain ⟨xl, xw, xa⟩ := x
  obtain ⟨A0, n0, c0', rfl⟩ := hvl
  dsimp only at h hl hlo ⊢
  have hlt := F8.tab_lt hT
  have hal : Below w.heap.size w (w.alloc (.cells #[.slice A0 n0 c0', .string ⟨xw.toArray⟩, va] 42)) := (Below.refl _ _).alloc (Nat.le_refl _) _
  have hbk := Bk.fresh w 42 #[.slice A0 n0 c0', .string ⟨xw.toArray⟩, va]
  by_cases hw : xw = []
  · subst hw
    have HP := Lib.hid (show As.pieces ⟨xl, [], xa⟩ a = some [] from by unfold As.pieces; rw [if_pos rfl])
    have b1 := hbk.cell 1
    have HAL := Lib.hid hal
    clear h hT hl hlo hal hbk hlt
    go_enter Tryd.func84, Tryd.ntmps84
    go_wp2_with fail
    go_ret2
    rw [HP.out]
    exact ⟨_, rfl, RdP.nil _ _, HAL.out⟩
  · have e1 : (xw == ([] : List UInt8)) = false := by simpa using hw
    have e2 : (!xw == ([] : List UInt8)) = true := by simpa using hw
    have e3 : xw.isEmpty = false := by simpa using hw
    have HP := Lib.hid (show As.pieces ⟨xl, xw, xa⟩ a = (match As.read xw a ⟨xa, true, []⟩ with | none => none | some y => As.done y) from by unfold As.pieces; rw [if_neg hw]; rfl)
    have hm := As.mk_start w 42 #[.slice A0 n0 c0', .string ⟨xw.toArray⟩, va] va xa h
    have hal2 : Below w.heap.size w ((w.alloc (.cells #[.slice A0 n0 c0', .string ⟨xw.toArray⟩, va] 42)).alloc (.cells #[va, .bool true, .slice none 0 0] 168)) := hal.alloc (by simp) _
    have hbk2 : Bk ((w.alloc (.cells #[.slice A0 n0 c0', .string ⟨xw.toArray⟩, va] 42)).alloc (.cells #[va, .bool true, .slice none 0 0] 168)) w.heap.size 42 #[.slice A0 n0 c0', .string ⟨xw.toArray⟩, va] := hbk.kept ((Below.refl _ _).alloc (Nat.le_refl _) _)
    have htb : As.Tb (fun k => k = w.heap.size + 1) ((w.alloc (.cells #[.slice A0 n0 c0', .string ⟨xw.toArray⟩, va] 42)).alloc (.cells #[va, .bool true, .slice none 0 0] 168)) := ⟨hT.kept hal2, fun e => by omega⟩
    obtain ⟨AA, cA, rfl⟩ := Rd.form h
    have b0 := hbk.cell 0
    have b1 := hbk.cell 1
    have b2 := hbk.cell 2
    have HM := Lib.hid hm
    have HB2 := Lib.hid hal2
    have HK2 := Lib.hid hbk2
    have HT := Lib.hid htb
    have HSH := Lib.hid (show As.Short xa from fun s hs => Nat.le_trans (hlo s hs) (by decide))
    have HL := Lib.hid hl
    have CB := Lib.hid (fun W => byname_own ⟨xw.toArray⟩ W)
    clear h hT hl hlo hal hal2 hbk hbk2 hm htb hlt hw
    go_enter Tryd.func84, Tryd.ntmps84
    go_wp2_with fail
    obtain ⟨W2, hW2⟩ : ∃ W2, (w.alloc (.cells #[.slice A0 n0 c0', .string ⟨xw.toArray⟩, .slice AA xa.length cA] 42)).alloc (.cells #[.slice AA xa.length cA, .bool true, .slice none 0 0] 168) = W2 := ⟨_, rfl⟩
    rw [hW2] at HM HB2 HK2 HT ⊢
    clear hW2 b0 b1 b2
    have b1 := HK2.out.cell 1
    go_wp2_with fail
    go_at_call 116
    refine (CB.out _).mono ?_
    rintro e w3 ⟨rfl, hb3⟩
    have HM3 := Lib.hid (HM.out.kept hb3)
    have HT3 := Lib.hid (HT.out.kept hb3)
    have HB3 := Lib.hid (show Below w.heap.size w w3 from HB2.out.trans (hb3.mono HB2.out.size))
    have hk3 := HK2.out.kept hb3
    have HK3 := Lib.hid hk3
    have d1 := hk3.cell 1
    clear hb3 hk3
    cases hn : Is.isName ⟨xw.toArray⟩
    · cases hp : As.pseudo xw ⟨xa, true, []⟩ with
      | some y =>
        have CP := Lib.hid (show Calls Tryd.prog 118 #[.pointer (some ⟨w.heap.size + 1, 0, none⟩), .string ⟨xw.toArray⟩] w3 (As.OptPost _ w3 (w.heap.size + 1) (some y)) from by rw [← hp]; exact apseudo_any HM3.out HT3.out HSH.out (Nat.zero_le _) xw)
        have HRD := Lib.hid (show As.read xw a ⟨xa, true, []⟩ = some y from by unfold As.read; rw [if_neg (by rw [hn]; decide), hp])
        clear hn hp
        go_wp2_with fail
        go_at_call 118
        refine CP.out.mono ?_
        rintro e wz ⟨rfl, hto⟩
        obtain ⟨A1, c1, Ap, cp, k0, k1, k2, HZ⟩ := As.tail_of (w := w) hto (Nat.le_succ _) (HM3.out.lt _ HM3.out.gx) HB3.out
        have HQ := Lib.hid (show As.pieces ⟨xl, xw, xa⟩ a = As.done (y) from by rw [HP.out, HRD.out])
        generalize y = y at *
        obtain ⟨yl, yo, yp⟩ := y
        dsimp only at k0 k1 k2 HZ HQ
        clear hto
        cases yo
        · have HR := Lib.hid (show As.pieces ⟨xl, xw, xa⟩ a = none from by rw [HQ.out]; unfold As.done; rw [if_neg (fun e => by cases e.1)])
          go_wp2_with fail
          go_ret2
          rw [HR.out]
          exact ⟨rfl, HZ.out.2⟩
        · cases yl with
          | nil =>
            have HR := Lib.hid (show As.pieces ⟨xl, xw, xa⟩ a = some yp from by rw [HQ.out]; unfold As.done; rw [if_pos ⟨rfl, rfl⟩])
            go_wp2_with fail
            go_ret2
            rw [HR.out]
            exact ⟨_, rfl, HZ.out.1, HZ.out.2⟩
          | cons s t =>
            have HR := Lib.hid (show As.pieces ⟨xl, xw, xa⟩ a = none from by rw [HQ.out]; unfold As.done; rw [if_neg (fun e => by cases e.2)])
            have hpos : (0 : Int) < ((s :: t).length : Int) := by rw [List.length_cons]; omega
            generalize (s :: t).length = ny at *
            go_wp2_with fail
            go_ret2
            rw [HR.out]
            exact ⟨rfl, HZ.out.2⟩
      | none =>
        have CP := Lib.hid (show Calls Tryd.prog 118 #[.pointer (some ⟨w.heap.size + 1, 0, none⟩), .string ⟨xw.toArray⟩] w3 (As.OptPost (fun _ => False) w3 (w.heap.size + 1) none) from apseudo_none xw hp)
        cases hd : As.data xw a ⟨xa, true, []⟩ with
        | some y =>
          have CD := Lib.hid (show Calls Tryd.prog 119 #[.pointer (some ⟨w.heap.size + 1, 0, none⟩), .string ⟨xw.toArray⟩, .int .u32 (a : Int)] w3 (As.OptPost _ w3 (w.heap.size + 1) (some y)) from by rw [← hd]; exact adata_any HM3.out HT3.out HSH.out (by have := HL.out; simp; omega) a ha xw)
          have HRD := Lib.hid (show As.read xw a ⟨xa, true, []⟩ = some y from by unfold As.read; rw [if_neg (by rw [hn]; decide), hp]; exact hd)
          clear hn hp hd
          go_wp2_with fail
          go_at_call 118
          refine CP.out.mono ?_
          rintro e w' ⟨rfl, rfl⟩
          go_wp2_with fail
          go_at_call 119
          refine CD.out.mono ?_
          rintro e wz ⟨rfl, hto⟩
          obtain ⟨A1, c1, Ap, cp, k0, k1, k2, HZ⟩ := As.tail_of (w := w) hto (Nat.le_succ _) (HM3.out.lt _ HM3.out.gx) HB3.out
          have HQ := Lib.hid (show As.pieces ⟨xl, xw, xa⟩ a = As.done (y) from by rw [HP.out, HRD.out])
          generalize y = y at *
          obtain ⟨yl, yo, yp⟩ := y
          dsimp only at k0 k1 k2 HZ HQ
          clear hto
          cases yo
          · have HR := Lib.hid (show As.pieces ⟨xl, xw, xa⟩ a = none from by rw [HQ.out]; unfold As.done; rw [if_neg (fun e => by cases e.1)])
            go_wp2_with fail
            go_ret2
            rw [HR.out]
            exact ⟨rfl, HZ.out.2⟩
          · cases yl with
            | nil =>
              have HR := Lib.hid (show As.pieces ⟨xl, xw, xa⟩ a = some yp from by rw [HQ.out]; unfold As.done; rw [if_pos ⟨rfl, rfl⟩])
              go_wp2_with fail
              go_ret2
              rw [HR.out]
              exact ⟨_, rfl, HZ.out.1, HZ.out.2⟩
            | cons s t =>
              have HR := Lib.hid (show As.pieces ⟨xl, xw, xa⟩ a = none from by rw [HQ.out]; unfold As.done; rw [if_neg (fun e => by cases e.2)])
              have hpos : (0 : Int) < ((s :: t).length : Int) := by rw [List.length_cons]; omega
              generalize (s :: t).length = ny at *
              go_wp2_with fail
              go_ret2
              rw [HR.out]
              exact ⟨rfl, HZ.out.2⟩
        | none =>
          have CD := Lib.hid (show Calls Tryd.prog 119 #[.pointer (some ⟨w.heap.size + 1, 0, none⟩), .string ⟨xw.toArray⟩, .int .u32 (a : Int)] w3 (As.OptPost (fun _ => False) w3 (w.heap.size + 1) none) from adata_none xw a hd)
          have HR := Lib.hid (show As.pieces ⟨xl, xw, xa⟩ a = none from by rw [HP.out]; unfold As.read; rw [if_neg (by rw [hn]; decide), hp]; dsimp only; rw [hd])
          clear hn hp hd
          go_wp2_with fail
          go_at_call 118
          refine CP.out.mono ?_
          rintro e w' ⟨rfl, rfl⟩
          go_wp2_with fail
          go_at_call 119
          refine CD.out.mono ?_
          rintro e w' ⟨rfl, rfl⟩
          go_wp2_with fail
          go_ret2
          rw [HR.out]
          exact ⟨rfl, HB3.out⟩
    · have CI := Lib.hid (ainst_any HM3.out HT3.out HSH.out (Is.found ⟨xw.toArray⟩) (Nat.zero_le _))
      have HRD := Lib.hid (show As.read xw a ⟨xa, true, []⟩ = some (As.inst (Is.found ⟨xw.toArray⟩) ⟨xa, true, []⟩) from by unfold As.read; rw [if_pos hn])
      clear hn
      go_wp2_with fail
      go_at_call 117
      refine CI.out.mono ?_
      rintro e wz ⟨rfl, hto⟩
      obtain ⟨A1, c1, Ap, cp, k0, k1, k2, HZ⟩ := As.tail_of (w := w) hto (Nat.le_succ _) (HM3.out.lt _ HM3.out.gx) HB3.out
      have HQ := Lib.hid (show As.pieces ⟨xl, xw, xa⟩ a = As.done (As.inst (Is.found ⟨xw.toArray⟩) ⟨xa, true, []⟩) from by rw [HP.out, HRD.out])
      generalize As.inst (Is.found ⟨xw.toArray⟩) ⟨xa, true, []⟩ = y at *
      obtain ⟨yl, yo, yp⟩ := y
      dsimp only at k0 k1 k2 HZ HQ
      clear hto
      cases yo
      · have HR := Lib.hid (show As.pieces ⟨xl, xw, xa⟩ a = none from by rw [HQ.out]; unfold As.done; rw [if_neg (fun e => by cases e.1)])
        go_wp2_with fail
        go_ret2
        rw [HR.out]
        exact ⟨rfl, HZ.out.2⟩
      · cases yl with
        | nil =>
          have HR := Lib.hid (show As.pieces ⟨xl, xw, xa⟩ a = some yp from by rw [HQ.out]; unfold As.done; rw [if_pos ⟨rfl, rfl⟩])
          go_wp2_with fail
          go_ret2
          rw [HR.out]
          exact ⟨_, rfl, HZ.out.1, HZ.out.2⟩
        | cons s t =>
          have HR := Lib.hid (show As.pieces ⟨xl, xw, xa⟩ a = none from by rw [HQ.out]; unfold As.done; rw [if_neg (fun e => by cases e.2)])
          have hpos : (0 : Int) < ((s :: t).length : Int) := by rw [List.length_cons]; omega
          generalize (s :: t).length = ny at *
          go_wp2_with fail
          go_ret2
          rw [HR.out]
          exact ⟨rfl, HZ.out.2⟩
end Go.Proofs.YtfafdkbnmfpbmaaDoor

/- Layer 7: the size of pieces. -/
namespace Go.Proofs.YtfafdkbnmfpbmaaDoor
open Go.RowKit Kit
set_option linter.unusedVariables false
set_option linter.unusedSimpArgs false

/-- The k-th piece. -/
theorem RdP.at {B : Nat} {W : World} {v : Value} {ps : List As.P} (h : RdP B W v ps) {k : Nat} (hk : k < ps.length) :
    ∃ g off c vb, v = .slice (some ⟨g, off, none⟩) ps.length c ∧ g < W.heap.size ∧ B ≤ g ∧ (∀ i, i < 10 → W.cell? ⟨g, off + k * 10 + i, none⟩ = (As.cellsP ps[k] vb)[i]?) ∧ Rd W 1 vb ps[k].bytes.length (bv ps[k].bytes) ∧ (∀ g off n c, vb = .slice (some ⟨g, off, none⟩) n c → 0 < n → B ≤ g) := by
  obtain ⟨cs, ⟨hl, A, c, rfl, h2, h3, h4⟩, hB, hp⟩ := h
  obtain ⟨g, off, rfl, hg, hc⟩ := h4 (by omega)
  obtain ⟨vb, q1, q2⟩ := hp.at hk
  refine ⟨g, off, c, vb, rfl, hg, hB g off _ c rfl (by omega), fun i hi => ?_, q1.1, q1.2⟩
  have hq := q2 i hi
  cases hu : (As.cellsP ps[k] vb)[i]? with
  | none =>
    rw [List.getElem?_eq_none_iff] at hu
    simp only [As.cellsP, List.length_cons, List.length_nil] at hu
    omega
  | some u =>
    rw [hu] at hq
    have := hc (k * 10 + i) u hq
    rwa [← Nat.add_assoc] at this
theorem As.size_take {ps : List As.P} {k : Nat} (hk : k < ps.length) : As.size (ps.take (k + 1)) = As.size (ps.take k) + As.size1 ps[k] := by
  unfold As.size
  rw [List.take_add_one, List.getElem?_eq_getElem hk, List.map_append, List.sum_append, Option.toList_some, List.map_cons, List.map_nil, List.sum_cons, List.sum_nil, Nat.add_zero]
theorem As.OkL.take {ps : List As.P} (h : As.OkL ps) (k : Nat) : As.OkL (ps.take k) := fun p hp => h p (List.mem_of_mem_take hp)
set_option maxRecDepth 100000 in
set_option maxHeartbeats 4000000 in
theorem asize_any {B : Nat} (v : Value) (ps : List As.P) (w : World) (h : RdP B w v ps) (hok : As.OkL ps) (hn : ps.length ≤ 2000000000) :
    Calls Tryd.prog 85 #[v] w fun e w' => e = .returned (.int .i64 ((As.size ps : Nat) : Int)) ∧ Below w.heap.size w w' := by
  have HH := Lib.hid h
  have HOK := Lib.hid hok
  have HLL := Lib.hid hn
  obtain ⟨A, c, rfl⟩ := h.form
  clear h hok hn
  go_enter Tryd.func85, Tryd.ntmps85
  go_wp2_with fail
  go_loopw [3, 8] (fun acc i wr => ∃ k : Nat, acc = .int .i64 ((As.size (ps.take k) : Nat) : Int) ∧ i = .int .i64 (k : Int) ∧ k ≤ ps.length ∧ Below w.heap.size w wr) (fun _ i _ => ps.length - (intOf i).toNat)
  case atStart => exact ⟨0, rfl, rfl, Nat.zero_le _, Below.refl _ _⟩
  case round =>
    obtain ⟨k, rfl, rfl, hk, hbr⟩ := hrel
    have HBR := Lib.hid hbr
    clear hbr
    by_cases hlt : k < ps.length
    · have hlt' : (k : Int) < (ps.length : Int) := by omega
      have hw1 : IntKind.i64.wrap ((k : Int) + 1) = (k : Int) + 1 := by have := HLL.out; rw [IntKind.wrap_i64]; omega
      obtain ⟨g, off, c', vb, e, hg, _, hc, hr, _⟩ := HH.out.at hlt
      injection e with e1 e2 e3
      subst e1 e3
      have HLT := Lib.hid (show k + 1 ≤ ps.length from hlt)
      have hsz := As.size_le (HOK.out.take k)
      have hb := (HOK.out _ (List.getElem_mem hlt)).bytes
      have HST := Lib.hid (As.size_take hlt)
      have hkl : (ps.take k).length ≤ 2000000000 := by have := HLL.out; rw [List.length_take]; omega
      have hS : As.size (ps.take k) ≤ 4000000008000000000 := Nat.le_trans hsz (Nat.le_trans (Nat.mul_le_mul_right _ hkl) (by decide))
      have HC := Lib.hid (fun i (hi : i < 10) => (HBR.out.cell (p := ⟨g, off + k * 10 + i, none⟩) hg).trans (hc i hi))
      clear hc hsz hkl
      generalize As.size (ps.take k) = S at *
      generalize ps[k] = p at *
      obtain ⟨pc, ⟨op, rd, rs1, rs2, imm⟩, pb, pk, pn, pf⟩ := p
      obtain ⟨BB, cb, rfl⟩ := hr.form
      dsimp only at hb
      have q0 := HC.out 0 (by decide)
      have q1 := HC.out 1 (by decide)
      have q2 := HC.out 2 (by decide)
      have q3 := HC.out 3 (by decide)
      have q4 := HC.out 4 (by decide)
      have q5 := HC.out 5 (by decide)
      have q6 := HC.out 6 (by decide)
      have q7 := HC.out 7 (by decide)
      have q8 := HC.out 8 (by decide)
      have q9 := HC.out 9 (by decide)
      simp only [As.cellsP, List.getElem?_cons_zero, List.getElem?_cons_succ, Nat.add_zero] at q0 q1 q2 q3 q4 q5 q6 q7 q8 q9
      have hw2 : IntKind.i64.wrap ((S : Int) + (pb.length : Int)) = (S : Int) + (pb.length : Int) := by rw [IntKind.wrap_i64]; omega
      have hw3 : IntKind.i64.wrap ((S : Int) + (pb.length : Int) + 4) = (S : Int) + (pb.length : Int) + 4 := by rw [IntKind.wrap_i64]; omega
      have hbk := Bk.fresh wr 141 #[.bool pc, .int .i64 op, .int .i64 rd, .int .i64 rs1, .int .i64 rs2, .int .i64 imm, .slice BB pb.length cb, .int .i64 (pk : Int), .string ⟨pn.toArray⟩, .string ⟨pf.toArray⟩]
      have b0 := hbk.cell 0
      have b6 := hbk.cell 6
      have HB2 := Lib.hid (show Below w.heap.size w (wr.alloc (.cells #[.bool pc, .int .i64 op, .int .i64 rd, .int .i64 rs1, .int .i64 rs2, .int .i64 imm, .slice BB pb.length cb, .int .i64 (pk : Int), .string ⟨pn.toArray⟩, .string ⟨pf.toArray⟩] 141)) from HBR.out.alloc HBR.out.size _)
      clear hr hbk
      cases pc
      · go_wp2_with fail
        go_roundw
        case rel => exact ⟨k + 1, by rw [HST.out]; simp [As.size1], by simp, HLT.out, HB2.out⟩
        case measure => have := HLT.out; simp [intOf]; omega
      · go_wp2_with fail
        go_roundw
        case rel => exact ⟨k + 1, by rw [HST.out]; simp [As.size1]; omega, by simp, HLT.out, HB2.out⟩
        case measure => have := HLT.out; simp [intOf]; omega
    · obtain rfl : k = ps.length := by omega
      rw [List.take_length]
      go_wp2_with fail
      go_ret
      exact ⟨rfl, HBR.out⟩
end Go.Proofs.YtfafdkbnmfpbmaaDoor
