/- Flow: knows of the law. -/
import Derived.Test.YtfafdkbnmfpbmaaDoorF8PlainW
namespace Go.Proofs.YtfafdkbnmfpbmaaDoor
open Go.RowKit Kit
set_option linter.unusedVariables false
set_option linter.unusedSimpArgs false

/-- What lines hold, made plain. -/
def F8.Lim (n : Nat) (l : List L6.Line) : Prop := ∀ y ∈ l, y.labels.length ≤ n + 1 ∧ y.args.length ≤ n + 3
theorem F8.Lim.one {n : Nat} {l : List L6.Line} (h : F8.Lim n l) {y : L6.Line} (h1 : y.labels.length ≤ n + 1) (h2 : y.args.length ≤ n + 3) : F8.Lim n (l ++ [y]) := fun z hz => by
  rcases List.mem_append.1 hz with hz | hz
  · exact h z hz
  · simp at hz; subst hz; exact ⟨h1, h2⟩
theorem F8.own_lim {n : Nat} {k : F8.K} {S S' : F8.St} {x : L6.Line} (h1 : x.labels.length ≤ n) (h : F8.own k S x = some S') (hb : F8.Lim n S.out) : F8.Lim n S'.out := by
  have hbr : ∀ t, F8.Lim n (S.out ++ [F8.br x t]) := fun t => hb.one (by show x.labels.length ≤ _; omega) (by show 3 ≤ _; omega)
  have hjm : ∀ t, F8.Lim n (S.out ++ [F8.jmp x.labels t]) := fun t => hb.one (by show x.labels.length ≤ _; omega) (by show 1 ≤ _; omega)
  have hat : ∀ t, F8.Lim n (S.out ++ [F8.at_ x.labels t]) := fun t => hb.one (by show (x.labels ++ [t]).length ≤ _; simp; omega) (by show 0 ≤ _; omega)
  have h0 : ∀ {l : List L6.Line} t, F8.Lim n l → F8.Lim n (l ++ [F8.at_ [] t]) := fun t hl => hl.one (by show 1 ≤ _; omega) (by show 0 ≤ _; omega)
  unfold F8.own at h
  repeat' split at h
  all_goals first
    | (cases h; done)
    | (cases h; exact hbr _)
    | (cases h; exact hjm _)
    | (cases h; exact hat _)
    | (cases h; exact h0 _ (hjm _))
theorem F8.run_lim (n : Nat) (l : List L6.Line) : (∀ x ∈ l, x.labels.length ≤ n ∧ x.args.length ≤ n) → ∀ (i : Nat) (S S' : F8.St), F8.run F8.own i S l = .inr S' → F8.Lim n S.out → F8.Lim n S'.out := by
  induction l with
  | nil => intro _ i S S' h hb; cases h; exact hb
  | cons x t ih =>
    intro hx i S S' h hb
    unfold F8.run at h
    cases hs : F8.step F8.own S x with
    | bad e => rw [hs] at h; cases h
    | ok S2 =>
      rw [hs] at h
      refine ih (fun y hy => hx y (by simp [hy])) _ _ _ h ?_
      have hxx := hx x (by simp)
      unfold F8.step at hs
      split at hs
      · cases hs
      · cases hk : F8.kind x.word with
        | none => rw [hk] at hs; cases hs; exact hb.one (by omega) (by omega)
        | some k =>
          rw [hk] at hs
          dsimp only at hs
          split at hs
          · cases ho : F8.own k S x with
            | none => rw [ho] at hs; cases hs
            | some S3 => rw [ho] at hs; cases hs; exact F8.own_lim hxx.1 ho hb
          · cases hs
theorem F8.plain_lim (n : Nat) (l : List L6.Line) (hx : ∀ x ∈ l, x.labels.length ≤ n ∧ x.args.length ≤ n) : F8.Lim n (F8.plain l).1 ∧ (F8.plain l).1.length ≤ 2 * l.length ∧ (F8.plain l).2.1 ≤ l.length + 1 := by
  unfold F8.plain
  have hle : ∀ (t : List L6.Line) (i : Nat) (S : F8.St) (p : Nat × Nat), F8.run F8.own i S t = .inl p → p.1 ≤ i + t.length := by
    intro t
    induction t with
    | nil => intro i S p h; cases h
    | cons x t ih =>
      intro i S p h
      unfold F8.run at h
      cases hs : F8.step F8.own S x with
      | bad e => rw [hs] at h; cases h; simp
      | ok S2 => rw [hs] at h; have := ih _ _ _ h; simp; omega
  cases hr : F8.run F8.own 0 F8.start l with
  | inl p => exact ⟨fun y hy => by simp [F8.tell] at hy, by simp [F8.tell], by have := hle _ _ _ _ hr; show p.1 ≤ _; omega⟩
  | inr S =>
    have h1 := F8.run_lim n l hx _ _ _ hr (fun y hy => by simp [F8.start] at hy)
    have h2 := F8.run_size _ _ _ _ hr
    unfold F8.tell
    dsimp only
    split
    · exact ⟨h1, by have := h2.1; simp only [F8.start, List.length_nil] at this; show S.out.length ≤ _; omega, Nat.zero_le _⟩
    · exact ⟨fun y hy => by simp at hy, by simp, by simp⟩
theorem F8.small_of {ls : List L6.Line} (h : L6.weight ls ≤ 3000) : ls.length ≤ 750 ∧ ∀ x ∈ ls, x.labels.length ≤ 3000 ∧ x.args.length ≤ 3000 ∧ x.word.length ≤ 3000 ∧ ∀ s ∈ x.labels, s.length ≤ 3000 := by
  have hl := L6.weight_len ls
  refine ⟨by omega, fun x hx => ?_⟩
  have hw := L6.weight_mem hx
  unfold L6.lweight at hw
  refine ⟨by omega, by omega, by omega, fun s hs => ?_⟩
  have := L6.tsum_mem hs
  omega
theorem F8.fit_of {ls : List L6.Line} (h : L6.weight ls ≤ 3000) : ∀ x ∈ ls, F8.Fit x := fun x hx => by
  have := (F8.small_of h).2 x hx
  exact ⟨by omega, by omega, fun s hs => Nat.le_trans (this.2.2.2 s hs) (by decide)⟩
/-- What must come: a choice. -/
def F8.known : List UInt8 := [105, 102, 32, 116, 48, 32, 101, 113, 32, 116, 49, 10, 110, 111, 112, 10, 116, 104, 101, 110]
def F8.knownL : List L6.Line := [⟨[], [105, 102], [[116, 48], [101, 113], [116, 49]]⟩, ⟨[], [110, 111, 112], []⟩, ⟨[], [116, 104, 101, 110], []⟩]
def F8.knownP : List L6.Line := [⟨[], [98, 110, 101], [[116, 48], [116, 49], [64, 48]]⟩, ⟨[], [110, 111, 112], []⟩, ⟨[[64, 48]], [], []⟩]
def F8.knownT : List UInt8 := [98, 110, 101, 32, 116, 48, 32, 116, 49, 32, 64, 48, 10, 110, 111, 112, 10, 64, 48, 58, 10]
theorem F8.known_parse : L6.parse F8.known = (F8.knownL, 0, 0) := by decide +kernel
theorem F8.lab_zero : F8.lab 0 = [64, 48] := by unfold F8.lab Lib.decDigits; rfl
theorem F8.known_plain : F8.plain F8.knownL = (F8.knownP, 0, 0) := by
  have h : F8.plain F8.knownL = ([⟨[], [98, 110, 101], [[116, 48], [116, 49], F8.lab 0]⟩, ⟨[], [110, 111, 112], []⟩, ⟨[F8.lab 0], [], []⟩], 0, 0) := by rfl
  rw [h, F8.lab_zero]
  rfl
theorem F8.known_print : L6.print F8.knownP = (F8.knownT, 0) := by decide +kernel
theorem fnum_any (n : Int) (w : World) : Calls Tryd.prog 18 #[.int .i64 n] w fun e w' => e = .returned (.int .i64 n) ∧ w = w' := by
  go_enter Tryd.func18, Tryd.ntmps18
  go_wp2
  go_ret
  exact ⟨rfl, rfl⟩
set_option maxRecDepth 100000 in
set_option maxHeartbeats 2000000 in
theorem fknows_any (w : World) (hT : L6.Tab w) : Calls Tryd.prog 10 #[] w fun e w' => e = .returned (.bool true) ∧ Below w.heap.size w w' := by
  have CP := Lib.hid (lparse_any F8.known w (by decide))
  unfold ParsePost at CP
  rw [F8.known_parse] at CP
  have CF := Lib.hid (fun v W (h : RdL W v F8.knownL) (hT : L6.Tab W) => by
    have := fplain_any v F8.knownL W h (by decide) (by unfold F8.Fit; decide) hT
    rw [F8.known_plain] at this
    exact this)
  have CQ := Lib.hid (fun v W (h : RdL W v F8.knownP) => by
    have := lprint_any v F8.knownP W h (by decide)
    rw [F8.known_print] at this
    exact this)
  have HT := Lib.hid hT
  clear hT
  go_enter Tryd.func10, Tryd.ntmps10
  go_wp2_with (go_at_call 29; refine CP.out.mono ?_)
  rintro e w1 v1 rfl hv1 hb1
  have HB1 := Lib.hid hb1
  have CF1 := Lib.hid (CF.out v1 w1 hv1.rd (HT.out.kept hb1))
  obtain ⟨A1, c1, rfl⟩ := hv1.form
  clear hv1 hb1
  go_wp2_with (go_at_call 12; refine CF1.out.mono ?_)
  rintro e w2 ⟨v2, rfl, hv2, hb2⟩
  have HB2 := Lib.hid (HB1.out.trans (hb2.mono HB1.out.size))
  have CQ1 := Lib.hid (CQ.out v2 w2 hv2.rd)
  obtain ⟨A2, c2, rfl⟩ := hv2.rd.form
  clear hv2 hb2
  go_wp2_with (first | (go_at_call 30; refine CQ1.out.mono ?_; rintro e w3 ⟨rfl, hb3⟩) | (go_at_call 18; refine (fnum_any _ _).mono ?_; rintro e w' ⟨rfl, rfl⟩))
  go_ret
  exact ⟨rfl, HB2.out.trans (hb3.mono HB2.out.size)⟩
end Go.Proofs.YtfafdkbnmfpbmaaDoor
