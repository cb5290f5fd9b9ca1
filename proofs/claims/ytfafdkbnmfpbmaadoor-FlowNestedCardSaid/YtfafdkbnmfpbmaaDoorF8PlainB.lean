/- Flow: plain laws: no word of flow is left; nested lines. -/
import Derived.Test.YtfafdkbnmfpbmaaDoorF8Plain
namespace Go.Proofs.YtfafdkbnmfpbmaaDoor
open Go.RowKit Kit
set_option linter.unusedVariables false
set_option linter.unusedSimpArgs false

theorem F8.opp_cases {c o : List UInt8} (h : F8.opp c = some o) : o = [110, 101] ∨ o = [101, 113] ∨ o = [103, 101] ∨ o = [108, 116] ∨ o = [103, 101, 117] ∨ o = [108, 116, 117] := by
  unfold F8.opp at h
  repeat' split at h
  all_goals first | (cases h; simp) | cases h
theorem F8.br_none (x : L6.Line) (t : List UInt8) : F8.kind (F8.br x t).word = none := by
  show F8.kind (98 :: (F8.opp (x.args.getD 1 [])).getD []) = none
  cases h : F8.opp (x.args.getD 1 []) with
  | none => decide
  | some o => rcases F8.opp_cases h with rfl | rfl | rfl | rfl | rfl | rfl <;> decide
def F8.Bare (l : List L6.Line) : Prop := ∀ y ∈ l, F8.kind y.word = none
theorem F8.Bare.one {l : List L6.Line} (h : F8.Bare l) {y : L6.Line} (hy : F8.kind y.word = none) : F8.Bare (l ++ [y]) := fun z hz => by
  rcases List.mem_append.1 hz with hz | hz
  · exact h z hz
  · simp at hz; subst hz; exact hy
theorem F8.jmp_none (ls : List (List UInt8)) (t : List UInt8) : F8.kind (F8.jmp ls t).word = none := by show F8.kind [106] = none; decide
theorem F8.at_none (ls : List (List UInt8)) (t : List UInt8) : F8.kind (F8.at_ ls t).word = none := by show F8.kind [] = none; decide
theorem F8.own_bare {k : F8.K} {S S' : F8.St} {x : L6.Line} (h : F8.own k S x = some S') (hb : F8.Bare S.out) : F8.Bare S'.out := by
  unfold F8.own at h
  repeat' split at h
  all_goals first
    | cases h; done
    | (cases h; exact hb.one (F8.br_none _ _))
    | (cases h; exact hb.one (F8.jmp_none _ _))
    | (cases h; exact hb.one (F8.at_none _ _))
    | (cases h; exact (hb.one (F8.jmp_none _ _)).one (F8.at_none _ _))
theorem F8.step_bare {S S' : F8.St} {x : L6.Line} (h : F8.step F8.own S x = .ok S') (hb : F8.Bare S.out) : F8.Bare S'.out := by
  unfold F8.step at h
  split at h
  · cases h
  · cases hk : F8.kind x.word with
    | none =>
      rw [hk] at h
      cases h
      exact hb.one hk
    | some k =>
      rw [hk] at h
      dsimp only at h
      split at h
      · cases ho : F8.own k S x with
        | none => rw [ho] at h; cases h
        | some S2 => rw [ho] at h; cases h; exact F8.own_bare ho hb
      · cases h
theorem F8.run_bare (l : List L6.Line) : ∀ (n : Nat) (S S' : F8.St), F8.run F8.own n S l = .inr S' → F8.Bare S.out → F8.Bare S'.out := by
  induction l with
  | nil => intro n S S' h hb; cases h; exact hb
  | cons x t ih =>
    intro n S S' h hb
    unfold F8.run at h
    cases hs : F8.step F8.own S x with
    | bad e => rw [hs] at h; cases h
    | ok S2 => rw [hs] at h; exact ih _ _ _ h (F8.step_bare hs hb)
/-- Lines without words of flow and made labels are as they were. -/
theorem F8.run_same (f : F8.K → F8.St → L6.Line → Option F8.St) (l : List L6.Line) (hb : F8.Bare l) (hm : ∀ y ∈ l, y.labels.any F8.made = false) : ∀ (n : Nat) (S : F8.St), F8.run f n S l = .inr ⟨S.out ++ l, S.opn, S.made⟩ := by
  induction l with
  | nil => intro n S; simp [F8.run]
  | cons x t ih =>
    intro n S
    unfold F8.run
    have h1 : F8.step f S x = .ok ⟨S.out ++ [x], S.opn, S.made⟩ := by
      unfold F8.step
      rw [if_neg (by rw [hm x (by simp)]; simp), hb x (by simp)]
    rw [h1]
    have := ih (fun y hy => hb y (by simp [hy])) (fun y hy => hm y (by simp [hy])) (n + 1) ⟨S.out ++ [x], S.opn, S.made⟩
    simpa using this
theorem F8.run_ok_bare (l : List L6.Line) (hb : F8.Bare l) : ∀ (n : Nat) (S S' : F8.St), F8.run F8.own n S l = .inr S' → S' = ⟨S.out ++ l, S.opn, S.made⟩ := by
  induction l with
  | nil => intro n S S' h; cases h; simp
  | cons x t ih =>
    intro n S S' h
    unfold F8.run at h
    cases hs : F8.step F8.own S x with
    | bad e => rw [hs] at h; cases h
    | ok S2 =>
      rw [hs] at h
      have h2 : S2 = ⟨S.out ++ [x], S.opn, S.made⟩ := by
        unfold F8.step at hs
        split at hs
        · cases hs
        · rw [hb x (by simp)] at hs
          cases hs
          rfl
      have := ih (fun y hy => hb y (by simp [hy])) _ _ _ h
      rw [this, h2]
      simp
/-- Another name for a made label. -/
def F8.ren (s : List UInt8) : List UInt8 := if F8.made s then 95 :: s else s
def F8.renL (y : L6.Line) : L6.Line := ⟨y.labels.map F8.ren, y.word, y.args⟩
theorem F8.ren_made (s : List UInt8) : F8.made (F8.ren s) = false := by
  unfold F8.ren
  split
  · rfl
  · rename_i h; simpa using h
theorem F8.renL_made (y : L6.Line) : (F8.renL y).labels.any F8.made = false := by
  simp only [F8.renL, List.any_map]
  rw [List.any_eq_false]
  intro s _
  simp [F8.ren_made]
theorem F8.run_bad (l : List L6.Line) : ∀ (n : Nat) (S : F8.St) (p : Nat × Nat), F8.run F8.own n S l = .inl p → p.2 ≠ 0 := by
  induction l with
  | nil => intro n S p h; cases h
  | cons x t ih =>
    intro n S p h
    unfold F8.run at h
    cases hs : F8.step F8.own S x with
    | ok S2 => rw [hs] at h; exact ih _ _ _ h
    | bad e =>
      rw [hs] at h
      cases h
      unfold F8.step at hs
      repeat' split at hs
      all_goals first | (injection hs with hs; subst hs; exact Nat.succ_ne_zero _) | (cases hs; done)
/-- What the law says of lines that were made plain. -/
theorem F8.none_law (l a : List L6.Line) (n : Nat) (h : F8.plain l = (a, n, 0)) : n = 0 ∧ F8.Bare a ∧ F8.plain (a.map F8.renL) = (a.map F8.renL, 0, 0) ∧ (F8.Bare l → a = l) := by
  unfold F8.plain at h
  cases hr : F8.run F8.own 0 F8.start l with
  | inl p =>
    rw [hr] at h
    obtain ⟨n', e⟩ := p
    unfold F8.tell at h
    dsimp only at h
    exfalso
    refine F8.run_bad l 0 F8.start _ hr ?_
    injection h with _ h; injection h
  | inr S =>
    rw [hr] at h
    unfold F8.tell at h
    dsimp only at h
    by_cases ho : S.opn = []
    · rw [if_pos ho] at h
      injection h with h1 h2
      subst h1
      injection h2 with h2 _
      subst h2
      have hb : F8.Bare S.out := F8.run_bare l 0 _ _ hr (fun y hy => by simp [F8.start] at hy)
      refine ⟨rfl, hb, ?_, fun hl => ?_⟩
      · unfold F8.plain
        rw [F8.run_same F8.own (S.out.map F8.renL) (fun y hy => ?_) (fun y hy => ?_)]
        · simp [F8.tell, F8.start]
        · obtain ⟨z, hz, rfl⟩ := List.mem_map.1 hy
          exact hb z hz
        · obtain ⟨z, hz, rfl⟩ := List.mem_map.1 hy
          exact F8.renL_made z
      · have := F8.run_ok_bare l hl 0 _ _ hr
        rw [this]
        simp [F8.start]
    · rw [if_neg ho] at h
      injection h with _ h
      injection h with _ h
      cases h
/-- How great the state may be behind so many lines. -/
theorem F8.own_size {k : F8.K} {S S' : F8.St} {x : L6.Line} (h : F8.own k S x = some S') : S'.out.length ≤ S.out.length + 2 ∧ S'.opn.length ≤ S.opn.length + 1 ∧ S'.made ≤ S.made + 1 := by
  unfold F8.own at h
  repeat' split at h
  all_goals first
    | (cases h; done)
    | (cases h; simp_all; done)
    | (cases h; simp_all; omega)
theorem F8.step_size {S S' : F8.St} {x : L6.Line} (h : F8.step F8.own S x = .ok S') : S'.out.length ≤ S.out.length + 2 ∧ S'.opn.length ≤ S.opn.length + 1 ∧ S'.made ≤ S.made + 1 := by
  unfold F8.step at h
  split at h
  · cases h
  · cases hk : F8.kind x.word with
    | none =>
      rw [hk] at h
      cases h
      simp
    | some k =>
      rw [hk] at h
      dsimp only at h
      split at h
      · cases ho : F8.own k S x with
        | none => rw [ho] at h; cases h
        | some S2 => rw [ho] at h; cases h; exact F8.own_size ho
      · cases h
theorem F8.run_size (l : List L6.Line) : ∀ (n : Nat) (S S' : F8.St), F8.run F8.own n S l = .inr S' → S'.out.length ≤ S.out.length + 2 * l.length ∧ S'.opn.length ≤ S.opn.length + l.length ∧ S'.made ≤ S.made + l.length := by
  induction l with
  | nil => intro n S S' h; cases h; simp
  | cons x t ih =>
    intro n S S' h
    unfold F8.run at h
    cases hs : F8.step F8.own S x with
    | bad e => rw [hs] at h; cases h
    | ok S2 =>
      rw [hs] at h
      have h1 := ih _ _ _ h
      have h2 := F8.step_size hs
      simp only [List.length_cons]
      omega
inductive F8.All2 {α β : Type} (R : α → β → Prop) : List α → List β → Prop
  | nil : F8.All2 R [] []
  | cons {a : α} {b : β} {l : List α} {m : List β} (h : R a b) (t : F8.All2 R l m) : F8.All2 R (a :: l) (b :: m)
theorem F8.All2.len {α β : Type} {R : α → β → Prop} {a : List α} {b : List β} (h : F8.All2 R a b) : a.length = b.length := by
  induction h with
  | nil => rfl
  | cons _ _ ih => simp [ih]
theorem F8.All2.at {α β : Type} {R : α → β → Prop} {a : List α} {b : List β} (h : F8.All2 R a b) (i : Nat) (h1 : i < a.length) (h2 : i < b.length) : R a[i] b[i] := by
  induction h generalizing i with
  | nil => simp at h1
  | cons h _ ih =>
    cases i with
    | zero => exact h
    | succ i => exact ih i _ _
/-- A text, and the same with a made label one higher. -/
def F8.TSh (N : Nat) (s t : List UInt8) : Prop := (F8.made s = false ∧ s = t) ∨ ∃ n, n < N ∧ s = F8.lab n ∧ t = F8.lab (n + 1)
structure F8.LSh (N : Nat) (y z : L6.Line) : Prop where
  word : y.word = z.word
  labels : F8.All2 (F8.TSh N) y.labels z.labels
  args : F8.All2 (F8.TSh N) y.args z.args
structure F8.Sh (N : Nat) (S S' : F8.St) : Prop where
  made : S'.made = S.made + 1
  out : ∃ o, S'.out = F8.at_ [] (F8.lab 0) :: o ∧ F8.All2 (F8.LSh N) S.out o
  opn : ∃ p, S'.opn = p ++ [(F8.wBegin, F8.lab 0)] ∧ F8.All2 (fun a b : List UInt8 × List UInt8 => a.1 = b.1 ∧ F8.TSh N a.2 b.2) S.opn p
theorem F8.all_same {N : Nat} {l : List (List UInt8)} (h : l.any F8.made = false) : F8.All2 (F8.TSh N) l l := by
  induction l with
  | nil => exact .nil
  | cons x t ih =>
    simp only [List.any_cons, Bool.or_eq_false_iff] at h
    exact .cons (.inl ⟨h.1, rfl⟩) (ih h.2)
theorem F8.app2 {α β : Type} {R : α → β → Prop} {a b : List α} {c d : List β} (h : F8.All2 R a c) (h' : F8.All2 R b d) : F8.All2 R (a ++ b) (c ++ d) := by
  induction h with
  | nil => exact h'
  | cons h1 _ ih => exact .cons h1 ih
theorem F8.out_one {N : Nat} {S S' : F8.St} (h : ∃ o, S'.out = F8.at_ [] (F8.lab 0) :: o ∧ F8.All2 (F8.LSh N) S.out o) {y z : L6.Line} (hy : F8.LSh N y z) : ∃ o, S'.out ++ [z] = F8.at_ [] (F8.lab 0) :: o ∧ F8.All2 (F8.LSh N) (S.out ++ [y]) o := by
  obtain ⟨o, e, ho⟩ := h
  exact ⟨o ++ [z], by rw [e]; rfl, F8.app2 ho (.cons hy .nil)⟩
theorem F8.none_made {N : Nat} {l : List (List UInt8)} (h : l.any F8.made = false) (i : Nat) : F8.TSh N (l.getD i []) (l.getD i []) := by
  refine .inl ⟨?_, rfl⟩
  rw [List.getD]
  cases hx : l[i]? with
  | none => rfl
  | some s =>
    rw [List.any_eq_false] at h
    simpa using h s (List.mem_of_getElem? hx)
theorem F8.sh_br {N : Nat} {x : L6.Line} (h1 : x.labels.any F8.made = false) (h2 : x.args.any F8.made = false) {t t' : List UInt8} (ht : F8.TSh N t t') : F8.LSh N (F8.br x t) (F8.br x t') :=
  ⟨rfl, F8.all_same h1, .cons (F8.none_made h2 0) (.cons (F8.none_made h2 2) (.cons ht .nil))⟩
theorem F8.sh_jmp {N : Nat} {ls : List (List UInt8)} (h1 : ls.any F8.made = false) {t t' : List UInt8} (ht : F8.TSh N t t') : F8.LSh N (F8.jmp ls t) (F8.jmp ls t') := ⟨rfl, F8.all_same h1, .cons ht .nil⟩
theorem F8.sh_at {N : Nat} {ls : List (List UInt8)} (h1 : ls.any F8.made = false) {t t' : List UInt8} (ht : F8.TSh N t t') : F8.LSh N (F8.at_ ls t) (F8.at_ ls t') := ⟨rfl, F8.app2 (F8.all_same h1) (.cons ht .nil), .nil⟩
theorem F8.sh_lab {N n : Nat} (h : n < N) : F8.TSh N (F8.lab n) (F8.lab (n + 1)) := .inr ⟨n, h, rfl, rfl⟩
theorem F8.sh_nil {N : Nat} : F8.TSh N [] [] := .inl ⟨rfl, rfl⟩
theorem F8.open_cases {N : Nat} {a b : F8.Opn} (h : F8.All2 (fun a b : List UInt8 × List UInt8 => a.1 = b.1 ∧ F8.TSh N a.2 b.2) a b) : (a = [] ∧ b = []) ∨ ∃ w k k2 r q, a = (w, k) :: r ∧ b = (w, k2) :: q ∧ F8.TSh N k k2 ∧ F8.All2 (fun a b : List UInt8 × List UInt8 => a.1 = b.1 ∧ F8.TSh N a.2 b.2) r q := by
  cases h with
  | nil => exact .inl ⟨rfl, rfl⟩
  | @cons x y r q hab hr =>
    obtain ⟨w, k⟩ := x
    obtain ⟨w2, k2⟩ := y
    obtain ⟨e, hk⟩ := hab
    dsimp only at e hk
    subst e
    exact .inr ⟨w, k, k2, r, q, rfl, rfl, hk, hr⟩
theorem F8.sh_own {N : Nat} {k : F8.K} {S S' S1 : F8.St} {x : L6.Line} (hN : S.made < N) (h1 : x.labels.any F8.made = false) (h2 : x.args.any F8.made = false) (hs : F8.Sh N S S') (h : F8.own k S x = some S1) : ∃ S1', F8.own k S' x = some S1' ∧ F8.Sh N S1 S1' := by
  obtain ⟨so, sp, sm⟩ := S
  obtain ⟨so2, tp, tm⟩ := S'
  obtain ⟨hm, ho, p, hp, hpp⟩ := hs
  dsimp only at hm hp hpp hN
  subst hm hp
  have hnil : ([] : List (List UInt8)).any F8.made = false := rfl
  cases k
  case ifK =>
    cases h
    exact ⟨_, rfl, rfl, F8.out_one ho (F8.sh_br h1 h2 (F8.sh_lab hN)), (F8.wIf, F8.lab (sm + 1)) :: p, rfl, .cons ⟨rfl, F8.sh_lab hN⟩ hpp⟩
  case beginK =>
    cases h
    exact ⟨_, rfl, rfl, F8.out_one ho (F8.sh_at h1 (F8.sh_lab hN)), (F8.wBegin, F8.lab (sm + 1)) :: p, rfl, .cons ⟨rfl, F8.sh_lab hN⟩ hpp⟩
  all_goals
    rcases F8.open_cases hpp with ⟨rfl, rfl⟩ | ⟨w, k, k2, r, q, rfl, rfl, hk, hr⟩
    · cases h
    simp only [F8.own] at h
    rw [List.cons_append]
    simp only [F8.own]
  case elseK =>
    by_cases hw : w = F8.wIf
    · rw [if_pos hw] at h ⊢
      cases h
      exact ⟨_, rfl, rfl, F8.out_one (S := ⟨_, [], 0⟩) (S' := ⟨_, [], 0⟩) (F8.out_one ho (F8.sh_jmp h1 (F8.sh_lab hN))) (F8.sh_at hnil hk), _ :: q, rfl, .cons ⟨rfl, F8.sh_lab hN⟩ hr⟩
    · rw [if_neg hw] at h; cases h
  case thenK =>
    by_cases hw : w = F8.wIf ∨ w = F8.wElse
    · rw [if_pos hw] at h ⊢
      cases h
      exact ⟨_, rfl, rfl, F8.out_one ho (F8.sh_at h1 hk), q, rfl, hr⟩
    · rw [if_neg hw] at h; cases h
  case whileK =>
    by_cases hw : w = F8.wBegin
    · rw [if_pos hw] at h ⊢
      cases h
      exact ⟨_, rfl, rfl, F8.out_one ho (F8.sh_br h1 h2 (F8.sh_lab hN)), _ :: _ :: q, rfl, .cons ⟨rfl, F8.sh_lab hN⟩ (.cons ⟨rfl, hk⟩ hr)⟩
    · rw [if_neg hw] at h; cases h
  case repeatK =>
    by_cases hw : w = F8.wWhile
    · rw [if_pos hw] at h ⊢
      rcases F8.open_cases hr with ⟨rfl, rfl⟩ | ⟨w', k', k2', r', q', rfl, rfl, hk', hr'⟩
      · dsimp only [List.nil_append] at h ⊢
        cases h
        rw [if_neg (by decide)]
        exact ⟨_, rfl, rfl, F8.out_one (S := ⟨_, [], 0⟩) (S' := ⟨_, [], 0⟩) (F8.out_one ho (F8.sh_jmp h1 F8.sh_nil)) (F8.sh_at hnil hk), [], rfl, .nil⟩
      · rw [List.cons_append]
        dsimp only at h ⊢
        by_cases hw' : w' = F8.wBegun
        · rw [if_pos hw'] at h ⊢
          cases h
          exact ⟨_, rfl, rfl, F8.out_one (S := ⟨_, [], 0⟩) (S' := ⟨_, [], 0⟩) (F8.out_one ho (F8.sh_jmp h1 hk')) (F8.sh_at hnil hk), q', rfl, hr'⟩
        · rw [if_neg hw'] at h ⊢
          cases h
          exact ⟨_, rfl, rfl, F8.out_one (S := ⟨_, [], 0⟩) (S' := ⟨_, [], 0⟩) (F8.out_one ho (F8.sh_jmp h1 F8.sh_nil)) (F8.sh_at hnil hk), _ :: q', rfl, .cons ⟨rfl, hk'⟩ hr'⟩
    · rw [if_neg hw] at h; cases h
  case untilK =>
    by_cases hw : w = F8.wBegin
    · rw [if_pos hw] at h ⊢
      cases h
      exact ⟨_, rfl, rfl, F8.out_one ho (F8.sh_br h1 h2 hk), q, rfl, hr⟩
    · rw [if_neg hw] at h; cases h
  case againK =>
    by_cases hw : w = F8.wBegin
    · rw [if_pos hw] at h ⊢
      cases h
      exact ⟨_, rfl, rfl, F8.out_one ho (F8.sh_jmp h1 hk), q, rfl, hr⟩
    · rw [if_neg hw] at h; cases h
theorem F8.sh_step {N : Nat} {S S' S1 : F8.St} {x : L6.Line} (hN : S.made < N) (h2 : x.args.any F8.made = false) (hs : F8.Sh N S S') (h : F8.step F8.own S x = .ok S1) : ∃ S1', F8.step F8.own S' x = .ok S1' ∧ F8.Sh N S1 S1' := by
  unfold F8.step at h ⊢
  by_cases h1 : x.labels.any F8.made
  · rw [if_pos h1] at h; cases h
  · rw [if_neg h1] at h ⊢
    have h1' : x.labels.any F8.made = false := by simpa using h1
    cases hk : F8.kind x.word with
    | none =>
      rw [hk] at h
      cases h
      exact ⟨_, rfl, hs.made, F8.out_one hs.out ⟨rfl, F8.all_same h1', F8.all_same h2⟩, hs.opn⟩
    | some k =>
      rw [hk] at h
      dsimp only at h ⊢
      by_cases hf : F8.fine k x
      · rw [if_pos hf] at h ⊢
        cases ho : F8.own k S x with
        | none => rw [ho] at h; cases h
        | some S2 =>
          rw [ho] at h
          cases h
          obtain ⟨S1', e, hS⟩ := F8.sh_own hN h1' h2 hs ho
          rw [e]
          exact ⟨_, rfl, hS⟩
      · rw [if_neg hf] at h; cases h
theorem F8.run_app (f : F8.K → F8.St → L6.Line → Option F8.St) (l m : List L6.Line) : ∀ (n : Nat) (S S1 : F8.St), F8.run f n S l = .inr S1 → F8.run f n S (l ++ m) = F8.run f (n + l.length) S1 m := by
  induction l with
  | nil => intro n S S1 h; cases h; simp
  | cons x t ih =>
    intro n S S1 h
    rw [List.cons_append]
    unfold F8.run at h
    conv => lhs; unfold F8.run
    cases hs : F8.step f S x with
    | bad e => rw [hs] at h; cases h
    | ok S2 =>
      rw [hs] at h
      dsimp only
      rw [ih (n + 1) S2 S1 h, List.length_cons]
      congr 1; omega
theorem F8.sh_run (N : Nat) (l : List L6.Line) (h2 : ∀ x ∈ l, x.args.any F8.made = false) : ∀ (n m : Nat) (S S' S1 : F8.St), S.made + l.length ≤ N → F8.Sh N S S' → F8.run F8.own n S l = .inr S1 → ∃ S1', F8.run F8.own m S' l = .inr S1' ∧ F8.Sh N S1 S1' := by
  induction l with
  | nil => intro n m S S' S1 _ hs h; cases h; exact ⟨S', rfl, hs⟩
  | cons x t ih =>
    intro n m S S' S1 hN hs h
    rw [List.length_cons] at hN
    unfold F8.run at h ⊢
    cases he : F8.step F8.own S x with
    | bad e => rw [he] at h; cases h
    | ok S2 =>
      rw [he] at h
      obtain ⟨S2', e, hS⟩ := F8.sh_step (by omega) (h2 x (by simp)) hs he
      rw [e]
      exact ih (fun y hy => h2 y (by simp [hy])) _ _ _ _ _ (by have := (F8.step_size he).2.2; omega) hS h
def F8.begin_ : L6.Line := ⟨[], F8.wBegin, []⟩
def F8.again_ : L6.Line := ⟨[], F8.wAgain, []⟩
/-- What the law says of nested lines. -/
theorem F8.nest_law (l a : List L6.Line) (n : Nat) (h2 : ∀ x ∈ l, x.args.any F8.made = false) (h : F8.plain l = (a, n, 0)) :
    ∃ b, F8.plain (F8.begin_ :: l ++ [F8.again_]) = (F8.at_ [] (F8.lab 0) :: b ++ [F8.jmp [] (F8.lab 0)], 0, 0) ∧ F8.All2 (F8.LSh l.length) a b := by
  unfold F8.plain at h
  cases hr : F8.run F8.own 0 F8.start l with
  | inl p =>
    rw [hr] at h
    exfalso
    refine F8.run_bad l 0 F8.start p hr ?_
    injection h with _ h; injection h
  | inr S =>
    rw [hr] at h
    unfold F8.tell at h
    dsimp only at h
    by_cases ho : S.opn = []
    · rw [if_pos ho] at h
      injection h with h1 h2'
      subst h1
      have h0 : F8.Sh l.length F8.start ⟨[F8.at_ [] (F8.lab 0)], [(F8.wBegin, F8.lab 0)], 1⟩ := ⟨rfl, ⟨[], rfl, .nil⟩, ⟨[], rfl, .nil⟩⟩
      obtain ⟨S1, e1, hm, ⟨b, hb, hab⟩, ⟨p, hp, hpp⟩⟩ := F8.sh_run l.length l h2 0 1 _ _ _ (by simp [F8.start]) h0 hr
      rw [ho] at hpp
      cases hpp
      rw [List.nil_append] at hp
      refine ⟨b, ?_, hab⟩
      unfold F8.plain
      have e2 : F8.run F8.own 0 F8.start (F8.begin_ :: l) = .inr S1 := by
        unfold F8.run
        exact e1
      rw [F8.run_app F8.own _ [F8.again_] 0 F8.start S1 e2]
      obtain ⟨so, sp, sm⟩ := S1
      dsimp only at hb hp
      subst hb hp
      rfl
    · rw [if_neg ho] at h
      injection h with _ h
      injection h with _ h
      cases h
end Go.Proofs.YtfafdkbnmfpbmaaDoor
