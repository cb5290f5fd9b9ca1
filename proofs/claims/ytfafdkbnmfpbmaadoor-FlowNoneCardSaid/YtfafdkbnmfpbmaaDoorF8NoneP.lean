/- Flow: names of labels that are changed in place. -/
import Derived.Test.YtfafdkbnmfpbmaaDoorF8Num
namespace Go.Proofs.YtfafdkbnmfpbmaaDoor
open Go.RowKit Kit
set_option linter.unusedVariables false
set_option linter.unusedSimpArgs false

/-- How long labels are. -/
def F8.Short (C : Nat) (l : List L6.Line) : Prop := ∀ y ∈ l, ∀ s ∈ y.labels, s.length ≤ C
theorem F8.Short.one {C : Nat} {l : List L6.Line} (h : F8.Short C l) {y : L6.Line} (hy : ∀ s ∈ y.labels, s.length ≤ C) : F8.Short C (l ++ [y]) := fun z hz => by
  rcases List.mem_append.1 hz with hz | hz
  · exact h z hz
  · simp only [List.mem_cons, List.not_mem_nil, or_false] at hz; subst hz; exact hy
theorem F8.lab_short {n C : Nat} (h : n + 2 ≤ C) : (F8.lab n).length ≤ C := by
  have := F8.dec_len n
  show (Lib.decDigits n).length + 1 ≤ C
  omega
theorem F8.own_short {C : Nat} {k : F8.K} {S S' : F8.St} {x : L6.Line} (hC : S.made + 2 ≤ C) (hx : ∀ s ∈ x.labels, s.length ≤ C) (h : F8.own k S x = some S') (hb : F8.Short C S.out) (ho : ∀ p ∈ S.opn, p.2.length ≤ C) : F8.Short C S'.out ∧ ∀ p ∈ S'.opn, p.2.length ≤ C := by
  have hlab := F8.lab_short hC
  have hat : ∀ (ls : List (List UInt8)) (t : List UInt8), (∀ s ∈ ls, s.length ≤ C) → t.length ≤ C → ∀ s ∈ (F8.at_ ls t).labels, s.length ≤ C := fun ls t h1 h2 s hs => by
    rcases List.mem_append.1 hs with hs | hs
    · exact h1 s hs
    · simp only [List.mem_cons, List.not_mem_nil, or_false] at hs; subst hs; exact h2
  have hjm : ∀ {l : List L6.Line} (t : List UInt8), F8.Short C l → F8.Short C (l ++ [F8.jmp x.labels t]) := fun t hl => hl.one hx
  have hbr : ∀ {l : List L6.Line} (t : List UInt8), F8.Short C l → F8.Short C (l ++ [F8.br x t]) := fun t hl => hl.one hx
  have h0 : ∀ (t : List UInt8), t.length ≤ C → ∀ s ∈ (F8.at_ [] t).labels, s.length ≤ C := fun t ht => hat [] t (fun s hs => by simp at hs) ht
  obtain ⟨so, sp, sm⟩ := S
  dsimp only at *
  cases k
  case ifK => cases h; exact ⟨hbr _ hb, fun p hp => by rcases List.mem_cons.1 hp with rfl | hp; exact hlab; exact ho p hp⟩
  case beginK => cases h; exact ⟨hb.one (hat _ _ hx hlab), fun p hp => by rcases List.mem_cons.1 hp with rfl | hp; exact hlab; exact ho p hp⟩
  all_goals
    cases sp with
    | nil => cases h
    | cons q r =>
      obtain ⟨w, kk⟩ := q
      have hk : kk.length ≤ C := ho (w, kk) (by simp)
      have hr : ∀ p ∈ r, p.2.length ≤ C := fun p hp => ho p (by simp [hp])
      simp only [F8.own] at h
      first
        | (split at h
           · cases h
             exact ⟨(hjm _ hb).one (h0 _ hk), fun p hp => by rcases List.mem_cons.1 hp with rfl | hp; exact hlab; exact hr p hp⟩
           · cases h)
        | (split at h
           · cases h
             exact ⟨hb.one (hat _ _ hx hk), hr⟩
           · cases h)
        | (split at h
           · cases h
             exact ⟨hbr _ hb, fun p hp => by rcases List.mem_cons.1 hp with rfl | hp; exact hlab; rcases List.mem_cons.1 hp with rfl | hp; exact hk; exact hr p hp⟩
           · cases h)
        | (split at h
           · cases h
             first | exact ⟨hbr _ hb, hr⟩ | exact ⟨hjm _ hb, hr⟩
           · cases h)
        | (split at h
           · cases r with
             | nil => cases h; exact ⟨(hjm _ hb).one (h0 _ hk), hr⟩
             | cons q2 r2 =>
               obtain ⟨w2, k2⟩ := q2
               dsimp only at h
               split at h
               · cases h; exact ⟨(hjm _ hb).one (h0 _ hk), fun p hp => hr p (by simp [hp])⟩
               · cases h; exact ⟨(hjm _ hb).one (h0 _ hk), hr⟩
           · cases h)
theorem F8.run_short {C : Nat} (l : List L6.Line) : ∀ (i : Nat) (S S' : F8.St), S.made + l.length + 2 ≤ C → (∀ x ∈ l, ∀ s ∈ x.labels, s.length ≤ C) → F8.run F8.own i S l = .inr S' → F8.Short C S.out → (∀ p ∈ S.opn, p.2.length ≤ C) → F8.Short C S'.out := by
  induction l with
  | nil => intro i S S' _ _ h hb _; cases h; exact hb
  | cons x t ih =>
    intro i S S' hC hx h hb ho
    rw [List.length_cons] at hC
    unfold F8.run at h
    cases hs : F8.step F8.own S x with
    | bad e => rw [hs] at h; cases h
    | ok S2 =>
      rw [hs] at h
      have hsz := (F8.step_size hs).2.2
      have hxx := hx x (by simp)
      have h2 : F8.Short C S2.out ∧ ∀ p ∈ S2.opn, p.2.length ≤ C := by
        unfold F8.step at hs
        split at hs
        · cases hs
        · cases hk : F8.kind x.word with
          | none => rw [hk] at hs; cases hs; exact ⟨hb.one hxx, ho⟩
          | some k =>
            rw [hk] at hs
            dsimp only at hs
            split at hs
            · cases ho2 : F8.own k S x with
              | none => rw [ho2] at hs; cases hs
              | some S3 => rw [ho2] at hs; cases hs; exact F8.own_short (by omega) hxx ho2 hb ho
            · cases hs
      exact ih _ _ _ (by omega) (fun y hy => hx y (by simp [hy])) h h2.1 h2.2
theorem F8.plain_short {C : Nat} (l : List L6.Line) (hC : l.length + 2 ≤ C) (hx : ∀ x ∈ l, ∀ s ∈ x.labels, s.length ≤ C) : F8.Short C (F8.plain l).1 := by
  unfold F8.plain
  cases hr : F8.run F8.own 0 F8.start l with
  | inl p => exact fun y hy => by simp [F8.tell] at hy
  | inr S =>
    have h1 := F8.run_short l 0 _ _ (by simp [F8.start]; omega) hx hr (fun y hy => by simp [F8.start] at hy) (fun p hp => by simp [F8.start] at hp)
    unfold F8.tell
    dsimp only
    split
    · exact h1
    · exact fun y hy => by simp at hy
theorem F8.plain_err {l a : List L6.Line} {n e : Nat} (h : F8.plain l = (a, n, e)) (he : e ≠ 0) : a = [] := by
  unfold F8.plain at h
  cases hr : F8.run F8.own 0 F8.start l with
  | inl p => rw [hr] at h; injection h with h _; exact h.symm
  | inr S =>
    rw [hr] at h
    unfold F8.tell at h
    dsimp only at h
    split at h
    · injection h with _ h; injection h with _ h; exact absurd h.symm he
    · injection h with h _; exact h.symm
theorem F8.run_unmade (l : List L6.Line) : ∀ (n : Nat) (S S' : F8.St), F8.run F8.own n S l = .inr S' → ∀ x ∈ l, x.labels.any F8.made = false := by
  induction l with
  | nil => intro n S S' _ x hx; simp at hx
  | cons y t ih =>
    intro n S S' h x hx
    unfold F8.run at h
    cases hs : F8.step F8.own S y with
    | bad e => rw [hs] at h; cases h
    | ok S2 =>
      rw [hs] at h
      rcases List.mem_cons.1 hx with rfl | hx
      · unfold F8.step at hs
        split at hs
        · cases hs
        · rename_i hm; simpa using hm
      · exact ih _ _ _ h x hx
theorem F8.ren_id {l : List (List UInt8)} (h : l.any F8.made = false) : l.map F8.ren = l := by
  rw [List.any_eq_false] at h
  conv => rhs; rw [← List.map_id l]
  refine List.map_congr_left fun s hs => ?_
  unfold F8.ren
  rw [if_neg (h s hs)]
  rfl
theorem F8.plain_unmade {l a : List L6.Line} {n : Nat} (h : F8.plain l = (a, n, 0)) (hl : a = l) : a.map F8.renL = l := by
  have h2 : ∀ x ∈ l, x.labels.any F8.made = false := by
    unfold F8.plain at h
    cases hr : F8.run F8.own 0 F8.start l with
    | inl p =>
      rw [hr] at h
      injection h with _ h
      injection h with _ h
      exact absurd h (F8.run_bad l 0 _ _ hr)
    | inr S => exact F8.run_unmade l _ _ _ hr
  rw [hl]
  conv => rhs; rw [← List.map_id l]
  refine List.map_congr_left fun x hx => ?_
  obtain ⟨xl, xw, xa⟩ := x
  unfold F8.renL
  dsimp only
  rw [F8.ren_id (h2 _ hx)]
  rfl
/-- A line's labels, the first ones changed. -/
def F8.mix (l : List (List UInt8)) (j : Nat) : List (List UInt8) := (l.take j).map F8.ren ++ l.drop j
theorem F8.mix_len (l : List (List UInt8)) (j : Nat) (hj : j ≤ l.length) : (F8.mix l j).length = l.length := by unfold F8.mix; simp; omega
theorem F8.mix_zero (l : List (List UInt8)) : F8.mix l 0 = l := by simp [F8.mix]
theorem F8.mix_all (l : List (List UInt8)) : F8.mix l l.length = l.map F8.ren := by simp [F8.mix]
theorem F8.mix_at {l : List (List UInt8)} {j : Nat} (hj : j < l.length) : (F8.mix l j).getD j [] = l.getD j [] := by
  unfold F8.mix
  rw [List.getD, List.getD, List.getElem?_append_right (by simp; omega)]
  simp [Nat.min_eq_left (Nat.le_of_lt hj)]
theorem F8.mix_step {l : List (List UInt8)} {j : Nat} (hj : j < l.length) : (F8.mix l j).set j (F8.ren (l.getD j [])) = F8.mix l (j + 1) := by
  unfold F8.mix
  have h1 : ((l.take j).map F8.ren).length = j := by simp; omega
  rw [List.set_append_right _ _ (by omega), h1, Nat.sub_self, List.drop_eq_getElem_cons hj, List.set_cons_zero, List.take_add_one, List.getElem?_eq_getElem hj, show l.getD j [] = l[j] from by simp [List.getD, hj]]
  simp only [Option.toList_some, List.map_append, List.map_cons, List.map_nil, List.append_assoc, List.cons_append, List.nil_append]
theorem F8.mix_same {l : List (List UInt8)} {j : Nat} (hj : j < l.length) (h : F8.made (l.getD j []) = false) : F8.mix l j = F8.mix l (j + 1) := by
  rw [← F8.mix_step hj]
  have e : F8.ren (l.getD j []) = (F8.mix l j).getD j [] := by
    unfold F8.ren
    rw [h, if_neg (by decide), F8.mix_at hj]
  rw [e]
  have hj2 : j < (F8.mix l j).length := by rw [F8.mix_len l j (Nat.le_of_lt hj)]; exact hj
  rw [List.getD, List.getElem?_eq_getElem hj2]
  simp
/-- Lines, the first i with other names, and the first j labels of the next. -/
def F8.upto (l : List L6.Line) (i : Nat) : List L6.Line := (l.take i).map F8.renL ++ l.drop i
def F8.mid (l : List L6.Line) (i : Nat) (y : L6.Line) : List L6.Line := (l.take i).map F8.renL ++ y :: l.drop (i + 1)
theorem F8.upto_mid {l : List L6.Line} {i : Nat} (hi : i < l.length) : F8.upto l i = F8.mid l i ⟨F8.mix l[i].labels 0, l[i].word, l[i].args⟩ := by
  unfold F8.upto F8.mid
  rw [F8.mix_zero, List.drop_eq_getElem_cons hi]
theorem F8.mid_upto {l : List L6.Line} {i : Nat} (hi : i < l.length) : F8.mid l i ⟨F8.mix l[i].labels l[i].labels.length, l[i].word, l[i].args⟩ = F8.upto l (i + 1) := by
  unfold F8.upto F8.mid
  rw [F8.mix_all, List.take_add_one, List.getElem?_eq_getElem hi]
  simp only [Option.toList_some, List.map_append, List.map_cons, List.map_nil, List.append_assoc, List.cons_append, List.nil_append]
  rfl
theorem F8.mid_len {l : List L6.Line} {i : Nat} (hi : i < l.length) (y : L6.Line) : (F8.mid l i y).length = l.length := by unfold F8.mid; simp; omega
theorem F8.mid_at {l : List L6.Line} {i : Nat} (hi : i < l.length) (y : L6.Line) (h : i < (F8.mid l i y).length) : (F8.mid l i y)[i] = y := by
  have e : (F8.mid l i y)[i]? = some y := by
    unfold F8.mid
    rw [List.getElem?_append_right (by simp; omega)]
    simp [Nat.min_eq_left (Nat.le_of_lt hi)]
  exact (List.getElem?_eq_some_iff.1 e).2
theorem F8.mid_set {l : List L6.Line} {i : Nat} (hi : i < l.length) (y z : L6.Line) : (F8.mid l i y).set i z = F8.mid l i z := by
  unfold F8.mid
  have h1 : ((l.take i).map F8.renL).length = i := by simp; omega
  rw [List.set_append_right _ _ (by omega), h1, Nat.sub_self, List.set_cons_zero]
theorem F8.upto_zero (l : List L6.Line) : F8.upto l 0 = l := by simp [F8.upto]
theorem F8.upto_all (l : List L6.Line) : F8.upto l l.length = l.map F8.renL := by simp [F8.upto]
theorem F8.upto_len (l : List L6.Line) (i : Nat) (hi : i ≤ l.length) : (F8.upto l i).length = l.length := by unfold F8.upto; simp; omega
/-- A text of a row is set. -/
theorem F8.own_set {w : World} {g k B n : Nat} {v : Value} {xs : List Value} {s : Value} (h : w.ownsRow B 9 1 v n xs) (hv : v.ownBlock = some g) : (w.setCell ⟨g, k, none⟩ s).ownsRow B 9 1 v n (xs.set k s) := by
  obtain ⟨h1, h2⟩ := h
  refine ⟨by rw [List.length_set]; exact h1, ?_⟩
  rcases h2 with ⟨rfl, _⟩ | ⟨g', cap, cur, rfl, hb, hh, hnc, hcm, hcs, htake⟩
  · cases hv
  · simp [Value.ownBlock] at hv
    subst hv
    have hk : Bk w g' 9 cur := hh
    refine .inr ⟨g', cap, cur.setIfInBounds k s, rfl, hb, hk.set k s, hnc, hcm, by simpa using hcs, ?_⟩
    rw [← htake, Array.toList_setIfInBounds, List.take_set]
theorem F8.z_set {w : World} {B g k : Nat} {u s : Value} {l : List (List UInt8)} {T : Array Value} (h : OwnZ B w u l) (hg : Bk w g 9 T) (hn : F8.blk u ≠ some g) : OwnZ B (w.setCell ⟨g, k, none⟩ s) u l := by
  rcases h with h | h
  · refine .inl ?_
    by_cases hb : u.ownBlock = some g
    · have h0 : l = [] := by
        obtain ⟨A, c, rfl⟩ := h.form
        cases A with
        | none => cases hb
        | some a =>
          unfold F8.blk at hn
          dsimp only at hn
          split at hn
          · rename_i e; exact List.eq_nil_of_length_eq_zero e
          · exact absurd hb hn
      subst h0
      exact F8.own_set (k := k) (s := s) h hb
    · exact own_but_ne h hb (But.setCell w g k s)
  · exact .inr h
theorem F8.Ls.mapIf {R R' : Value → List (List UInt8) → Prop} {P : Nat → Prop} (h : ∀ u l, (∀ k, F8.blk u = some k → P k) → R u l → R' u l) : ∀ {ls : List L6.Line} {cs : List Value}, F8.Ls R ls cs → (∀ k ∈ F8.blks cs, P k) → F8.Ls R' ls cs
  | [], _, e, _ => e
  | x :: t, _, ⟨vl, va, r, e, a1, a2, a3⟩, hlt => by
    subst e
    have e0 : F8.blks (vl :: .string ⟨x.word.toArray⟩ :: va :: r) = (F8.blk vl).toList ++ ((F8.blk va).toList ++ F8.blks r) := by
      have es : F8.blk (.string ⟨x.word.toArray⟩) = none := rfl
      unfold F8.blks
      cases h1 : F8.blk vl <;> cases h2 : F8.blk va <;> simp [List.filterMap_cons, h1, h2, es]
    rw [e0] at hlt
    exact ⟨vl, va, r, rfl, h _ _ (fun k hk => hlt k (by simp [hk])) a1, h _ _ (fun k hk => hlt k (by simp [hk])) a2, F8.Ls.mapIf h a3 (fun k hk => hlt k (by simp [hk]))⟩
theorem F8.ls_set {B g k : Nat} {w : World} {s : List UInt8} {T : Array Value} (hg : Bk w g 9 T) : ∀ {ls : List L6.Line} {cs : List Value} (i : Nat) (hi : i < ls.length), F8.Ls (OwnZ B w) ls cs → (F8.blks cs).Nodup → (∀ vl, cs[i * 3]? = some vl → F8.blk vl = some g) →
    F8.Ls (OwnZ B (w.setCell ⟨g, k, none⟩ (.string ⟨s.toArray⟩))) (ls.set i ⟨ls[i].labels.set k s, ls[i].word, ls[i].args⟩) cs
  | [], _, i, hi, _, _, _ => absurd hi (by simp)
  | x :: t, _, i, hi, ⟨vl, va, r, e, a1, a2, a3⟩, hn, hv => by
    subst e
    have e0 : F8.blks (vl :: .string ⟨x.word.toArray⟩ :: va :: r) = (F8.blk vl).toList ++ ((F8.blk va).toList ++ F8.blks r) := by
      have es : F8.blk (.string ⟨x.word.toArray⟩) = none := rfl
      unfold F8.blks
      cases h1 : F8.blk vl <;> cases h2 : F8.blk va <;> simp [List.filterMap_cons, h1, h2, es]
    rw [e0] at hn
    cases i with
    | zero =>
      have hvg := hv vl rfl
      rw [hvg] at hn
      simp only [Option.toList_some, List.cons_append, List.nil_append, List.nodup_cons] at hn
      refine ⟨vl, va, r, rfl, ?_, F8.z_set a2 hg (fun e => hn.1 (by rw [e]; simp)), F8.Ls.mapIf (P := fun j => j ≠ g) (fun u l hu hz => F8.z_set hz hg (fun e => hu g e rfl)) a3 (fun j hj e => hn.1 (by rw [← e]; simp [hj]))⟩
      rcases a1 with a1 | ⟨_, A, e2⟩
      · refine .inl ?_
        have := F8.own_set (k := k) (s := .string ⟨s.toArray⟩) a1 (F8.blk_own hvg)
        unfold OwnS
        rw [List.getElem_cons_zero, List.length_set]
        simpa [L6.sv, List.map_set] using this
      · rw [e2] at hvg
        cases A <;> simp [F8.blk] at hvg
    | succ i =>
      have hi' : i < t.length := by simpa using hi
      have hvt : ∀ u, r[i * 3]? = some u → F8.blk u = some g := fun u hu => hv u (by rw [show (i + 1) * 3 = i * 3 + 3 by omega]; simpa using hu)
      have hnr : (F8.blks r).Nodup := (List.nodup_append.1 (List.nodup_append.1 hn).2.1).2.1
      have hin : g ∈ F8.blks r := by
        obtain ⟨ul, ua, u1, _, _, _, _⟩ := LinesRd.at i hi' (F8.Ls.rd (w := w) (fun _ _ hz => OwnZ.rd hz) a3)
        exact List.mem_filterMap.2 ⟨ul, List.mem_of_getElem? u1, hvt ul u1⟩
      have hd1 := (List.nodup_append.1 hn).2.2
      have hd2 := (List.nodup_append.1 (List.nodup_append.1 hn).2.1).2.2
      refine ⟨vl, va, r, rfl, F8.z_set a1 hg (fun e => hd1 g (by rw [e]; simp) g (by simp [hin]) rfl), F8.z_set a2 hg (fun e => hd2 g (by rw [e]; simp) g hin rfl), ?_⟩
      have := F8.ls_set (k := k) (s := s) hg i hi' a3 hnr hvt
      simpa using this
end Go.Proofs.YtfafdkbnmfpbmaaDoor
