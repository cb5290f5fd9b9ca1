/- Flow: the maker in memory. -/
import Derived.Test.YtfafdkbnmfpbmaaDoorF8PlainB
namespace Go.Proofs.YtfafdkbnmfpbmaaDoor
open Go.RowKit Kit
set_option linter.unusedVariables false
set_option linter.unusedSimpArgs false

/-- A row of another type grows: this one stays. -/
theorem own_other {T T' : TypeId} (hT : T' ≠ T) {base base' : Nat} {w w' : World} {v u : Value} {size size' n m : Nat} {cs xs : List Value} (hv : w.ownsRow base' T size v n cs) (hg : w.grownBy w' v.ownBlock) (hu : w.ownsRow base T' size' u m xs) : w'.ownsRow base T' size' u m xs := by
  obtain ⟨e1, e2⟩ := hu
  refine ⟨e1, ?_⟩
  rcases e2 with e2 | ⟨g', cap, cur, rfl, hb', hh, rest⟩
  · exact .inl e2
  · refine .inr ⟨g', cap, cur, rfl, hb', (hg.block g' (Array.getElem?_eq_some_iff.1 hh).1 (fun e => ?_)).trans hh, rest⟩
    obtain ⟨_, q⟩ := hv
    rcases q with ⟨rfl, _⟩ | ⟨g2, cap2, cur2, rfl, _, hh2, _⟩
    · simp [Value.ownBlock] at e
    · simp [Value.ownBlock] at e
      subst e
      rw [hh] at hh2
      simp at hh2
      exact hT hh2.2
theorem bk_other {T : TypeId} {t : TypeId} (hT : t ≠ T) {base' : Nat} {w w' : World} {v : Value} {size n : Nat} {cs : List Value} {g : Nat} {xs : Array Value} (hv : w.ownsRow base' T size v n cs) (hg : w.grownBy w' v.ownBlock) (hb : Bk w g t xs) : Bk w' g t xs :=
  (hg.block _ hb.lt (fun e => own_ne hv hb hT e.symm)).trans hb
theorem own_but {T : TypeId} {base g : Nat} {w w' : World} {v : Value} {size n : Nat} {xs : List Value} {t : TypeId} {cs : Array Value} (h : w.ownsRow base T size v n xs) (hk : Bk w g t cs) (ht : t ≠ T) (hb : But g w w') : w'.ownsRow base T size v n xs := by
  have hne := own_ne h hk ht
  obtain ⟨h1, h2⟩ := h
  refine ⟨h1, ?_⟩
  rcases h2 with h2 | ⟨g', cap, cur, rfl, hb', hh, rest⟩
  · exact .inl h2
  · exact .inr ⟨g', cap, cur, rfl, hb', (hb.block (Array.getElem?_eq_some_iff.1 hh).1 (fun e => hne (by simp [Value.ownBlock, e]))).trans hh, rest⟩
theorem OwnZ.butZ {base g : Nat} {w w' : World} {v : Value} {l : List (List UInt8)} {t : TypeId} {cs : Array Value} (h : OwnZ base w v l) (hk : Bk w g t cs) (ht : t ≠ 9) (hb : But g w w') : OwnZ base w' v l := by
  rcases h with h | h
  · exact .inl (own_but h hk ht hb)
  · exact .inr h
/-- A slice of texts: of the call's own; or (where it needs not be) below B. -/
def F8.Z (own : Bool) (B : Nat) (w : World) (v : Value) (l : List (List UInt8)) : Prop := OwnZ B w v l ∨ (own = false ∧ RdS w v l ∧ ∀ g off n c, v = .slice (some ⟨g, off, none⟩) n c → 0 < n → g < B)
theorem F8.Z.rd {own : Bool} {B : Nat} {w : World} {v : Value} {l : List (List UInt8)} (h : F8.Z own B w v l) : RdS w v l := by
  rcases h with h | h
  · exact h.rd
  · exact h.2.1
theorem F8.Z.form {own : Bool} {B : Nat} {w : World} {v : Value} {l : List (List UInt8)} (h : F8.Z own B w v l) : ∃ A c, v = .slice A l.length c := Rd.form h.rd
theorem F8.Z.own {B : Nat} {w : World} {v : Value} {l : List (List UInt8)} (h : F8.Z true B w v l) : OwnZ B w v l := by
  rcases h with h | h
  · exact h
  · cases h.1
/-- A block that is neither the maker's nor one of its rows'. -/
def F8.Free (gm : Nat) (W : World) (g : Nat) : Prop := g ≠ gm ∧ (∀ v, W.cell? ⟨gm, 0, none⟩ = some v → v.ownBlock ≠ some g) ∧ ∀ v, W.cell? ⟨gm, 1, none⟩ = some v → v.ownBlock ≠ some g
theorem F8.Free.same {gm g : Nat} {w w' : World} (h : F8.Free gm w g) (e : w'.heap[gm]? = w.heap[gm]?) : F8.Free gm w' g := by
  have c : ∀ i, w'.cell? ⟨gm, i, none⟩ = w.cell? ⟨gm, i, none⟩ := fun i => World.cell?_of_block (a := ⟨gm, i, none⟩) e
  exact ⟨h.1, fun v hv => h.2.1 v ((c 0).symm.trans hv), fun v hv => h.2.2 v ((c 1).symm.trans hv)⟩
/-- What lies below B stays, and so do all texts in rows, and what is not the maker's. -/
structure F8.Stay (gm B : Nat) (w w' : World) : Prop where
  below : Below B w w'
  text : ∀ g cs, Bk w g 9 cs → w'.heap[g]? = w.heap[g]?
  keep : ∀ g, g < w.heap.size → F8.Free gm w g → w'.heap[g]? = w.heap[g]? ∧ F8.Free gm w' g
theorem F8.Stay.refl (gm B : Nat) (w : World) : F8.Stay gm B w w := ⟨Below.refl _ _, fun _ _ _ => rfl, fun _ _ h => ⟨rfl, h⟩⟩
theorem F8.Stay.trans {gm B : Nat} {a b c : World} (h : F8.Stay gm B a b) (k : F8.Stay gm B b c) : F8.Stay gm B a c :=
  ⟨h.below.trans k.below, fun g cs hb => (k.text g cs ((h.text g cs hb).trans hb)).trans (h.text g cs hb), fun g hg hf => by
    obtain ⟨e1, f1⟩ := h.keep g hg hf
    obtain ⟨e2, f2⟩ := k.keep g (Nat.lt_of_lt_of_le hg h.below.size) f1
    exact ⟨e2.trans e1, f2⟩⟩
theorem F8.Stay.of {gm B : Nat} {w w' : World} (h : Below w.heap.size w w') (hB : B ≤ w.heap.size) (hg : gm < w.heap.size) : F8.Stay gm B w w' :=
  ⟨h.mono hB, fun g cs hb => h.block g hb.lt, fun g hl hf => ⟨h.block g hl, hf.same (h.block gm hg)⟩⟩
/-- What the walk must know of a stored row: it is the one that was, or new. -/
def F8.Where (v v' : Value) (n : Nat) : Prop := ∀ k, v'.ownBlock = some k → v.ownBlock = some k ∨ n ≤ k
theorem own_lt {w : World} {base : Nat} {e : TypeId} {size : Nat} {v : Value} {n : Nat} {xs : List Value} (h : w.ownsRow base e size v n xs) {k : Nat} (hk : v.ownBlock = some k) : k < w.heap.size := by
  obtain ⟨_, h2⟩ := h
  rcases h2 with ⟨rfl, _⟩ | ⟨g, cap, cur, rfl, hb', hh, rest⟩
  · cases hk
  · simp [Value.ownBlock] at hk
    subst hk
    exact (Array.getElem?_eq_some_iff.1 hh).1
/-- A cell of the maker is set. -/
theorem F8.stay_set {gm B : Nat} {w w' : World} {TM : TypeId} {cs : Array Value} {row : Option Nat} (hk0 : Bk w gm TM cs) (hg : w.grownBy w' row) (hk : Bk w' gm TM cs) (hne : row ≠ some gm) (ht : ∀ g cs, Bk w g 9 cs → row ≠ some g) (hms : TM ≠ 9) (hrow : ∀ g, F8.Free gm w g → row ≠ some g) (hb : Below B w w') (hB : B ≤ gm) (i : Nat) (u : Value)
    (hw : ∀ g, g < w.heap.size → F8.Free gm w g → F8.Free gm (w'.setCell ⟨gm, i, none⟩ u) g) : F8.Stay gm B w (w'.setCell ⟨gm, i, none⟩ u) :=
  ⟨hb.setCell (p := ⟨gm, i, none⟩) hB _, fun g cs' hbk => ((But.setCell w' gm i u).block (Nat.lt_of_lt_of_le hbk.lt hb.size) (hbk.ne hk0 (Ne.symm hms))).trans (hg.block g hbk.lt (fun e => ht g cs' hbk e.symm)),
    fun g hl hf => ⟨((But.setCell w' gm i u).block (Nat.lt_of_lt_of_le hl hb.size) hf.1).trans (hg.block g hl (fun e => hrow g hf e.symm)), hw g hl hf⟩⟩
theorem OwnZ.stay {gm base B : Nat} {w w' : World} {v : Value} {l : List (List UInt8)} (h : OwnZ base w v l) (hs : F8.Stay gm B w w') : OwnZ base w' v l := by
  rcases h with ⟨h1, h2⟩ | h
  · refine .inl ⟨h1, ?_⟩
    rcases h2 with h2 | ⟨g, cap, cur, rfl, hb', hh, rest⟩
    · exact .inl h2
    · exact .inr ⟨g, cap, cur, rfl, hb', (hs.text g cur hh).trans hh, rest⟩
  · exact .inr h
theorem F8.Z.stay {own : Bool} {gm B : Nat} {w w' : World} {v : Value} {l : List (List UInt8)} (h : F8.Z own B w v l) (hs : F8.Stay gm B w w') : F8.Z own B w' v l := by
  rcases h with h | ⟨h1, h2, h3⟩
  · exact .inl (h.stay hs)
  · refine .inr ⟨h1, Rd.keep h2 hs.below.size fun g off c e hn hg => hs.below.block g (h3 g off _ c e hn), h3⟩
/-- These cells are these lines; R: of the slices. -/
def F8.Ls (R : Value → List (List UInt8) → Prop) : List L6.Line → List Value → Prop
  | [], cs => cs = []
  | x :: t, cs => ∃ vl va r, cs = vl :: .string ⟨x.word.toArray⟩ :: va :: r ∧ R vl x.labels ∧ R va x.args ∧ F8.Ls R t r
theorem F8.Ls.map {R R' : Value → List (List UInt8) → Prop} (h : ∀ v l, R v l → R' v l) : ∀ {ls : List L6.Line} {cs : List Value}, F8.Ls R ls cs → F8.Ls R' ls cs
  | [], _, e => e
  | _ :: _, _, ⟨vl, va, r, e, h1, h2, h3⟩ => ⟨vl, va, r, e, h _ _ h1, h _ _ h2, F8.Ls.map h h3⟩
theorem F8.Ls.snoc {R : Value → List (List UInt8) → Prop} {x : L6.Line} {vl va : Value} (h1 : R vl x.labels) (h2 : R va x.args) : ∀ {ls : List L6.Line} {cs : List Value}, F8.Ls R ls cs → F8.Ls R (ls ++ [x]) (cs ++ [vl, .string ⟨x.word.toArray⟩, va])
  | [], _, e => by
    have e : _ = [] := e
    subst e
    exact ⟨vl, va, [], rfl, h1, h2, rfl⟩
  | _ :: _, _, ⟨vl', va', r, e, g1, g2, g3⟩ => by subst e; exact ⟨vl', va', _, rfl, g1, g2, F8.Ls.snoc h1 h2 g3⟩
theorem F8.Ls.rd {R : Value → List (List UInt8) → Prop} {w : World} (h : ∀ v l, R v l → RdS w v l) : ∀ {ls : List L6.Line} {cs : List Value}, F8.Ls R ls cs → LinesRd w ls cs
  | [], _, e => e
  | _ :: _, _, ⟨vl, va, r, e, h1, h2, h3⟩ => ⟨vl, va, r, e, h _ _ h1, h _ _ h2, F8.Ls.rd h h3⟩
/-- The block that a slice has elements in. -/
def F8.blk : Value → Option Nat
  | .slice (some a) n _ => if n = 0 then none else some a.block
  | _ => none
theorem F8.blk_own {v : Value} {k : Nat} (h : F8.blk v = some k) : v.ownBlock = some k := by
  unfold F8.blk at h
  split at h
  · split at h
    · cases h
    · exact h
  · cases h
def F8.blks (cs : List Value) : List Nat := cs.filterMap F8.blk
/-- These slices lie apart, and before H. -/
def F8.Apart (H : Nat) (cs : List Value) : Prop := (F8.blks cs).Nodup ∧ ∀ k ∈ F8.blks cs, k < H
theorem F8.Apart.mono {H H' : Nat} {cs : List Value} (h : F8.Apart H cs) (hH : H ≤ H') : F8.Apart H' cs := ⟨h.1, fun k hk => Nat.lt_of_lt_of_le (h.2 k hk) hH⟩
/-- Slices before H; if they are the program's, apart. -/
def F8.Sep (own : Bool) (H : Nat) (cs : List Value) : Prop := (own = true → (F8.blks cs).Nodup) ∧ ∀ k ∈ F8.blks cs, k < H
theorem F8.Sep.apart {H : Nat} {cs : List Value} (h : F8.Sep true H cs) : F8.Apart H cs := ⟨h.1 rfl, h.2⟩
theorem F8.Sep.mono {own : Bool} {H H' : Nat} {cs : List Value} (h : F8.Sep own H cs) (hH : H ≤ H') : F8.Sep own H' cs := ⟨h.1, fun k hk => Nat.lt_of_lt_of_le (h.2 k hk) hH⟩
theorem F8.Sep.nil (own : Bool) (H : Nat) : F8.Sep own H [] := ⟨fun _ => by simp [F8.blks], by simp [F8.blks]⟩
/-- Two slices from H on, apart. -/
structure F8.New (H H' : Nat) (vl va : Value) : Prop where
  l : ∀ k, F8.blk vl = some k → H ≤ k ∧ k < H'
  a : ∀ k, F8.blk va = some k → H ≤ k ∧ k < H'
  la : ∀ k, F8.blk vl = some k → F8.blk va ≠ some k
theorem F8.Apart.snoc {H H' : Nat} {cs : List Value} {vl va : Value} {s : ByteArray} (h : F8.Apart H cs) (n : F8.New H H' vl va) (hH : H ≤ H') : F8.Apart H' (cs ++ [vl, .string s, va]) := by
  unfold F8.Apart F8.blks
  rw [List.filterMap_append]
  have e : List.filterMap F8.blk [vl, .string s, va] = (F8.blk vl).toList ++ (F8.blk va).toList := by
    have es : F8.blk (.string s) = none := rfl
    cases h1 : F8.blk vl <;> cases h2 : F8.blk va <;> simp [List.filterMap_cons, h1, h2, es]
  rw [e]
  obtain ⟨hn, hl⟩ := h
  have hl' : ∀ k ∈ List.filterMap F8.blk cs, k < H := hl
  have hn' : (List.filterMap F8.blk cs).Nodup := hn
  refine ⟨List.nodup_append.2 ⟨hn', ?_, ?_⟩, ?_⟩
  · cases h1 : F8.blk vl with
    | none => cases h2 : F8.blk va <;> simp
    | some k1 => cases h2 : F8.blk va with
      | none => simp
      | some k2 => simp; intro e; exact n.la k1 h1 (by rw [h2, e])
  · intro a ha b hb e
    subst e
    have := hl' a ha
    rcases List.mem_append.1 hb with hb | hb
    · have := n.l a (by simpa using hb); omega
    · have := n.a a (by simpa using hb); omega
  · intro k hk
    rcases List.mem_append.1 hk with hk | hk
    · exact Nat.lt_of_lt_of_le (hl' k hk) hH
    · rcases List.mem_append.1 hk with hk | hk
      · exact (n.l k (by simpa using hk)).2
      · exact (n.a k (by simpa using hk)).2
theorem F8.Sep.snoc {own : Bool} {H H' : Nat} {cs : List Value} {vl va : Value} {s : ByteArray} (h : F8.Sep own H cs) (hl : ∀ k, F8.blk vl = some k → k < H') (ha : ∀ k, F8.blk va = some k → k < H') (n : own = true → F8.New H H' vl va) (hH : H ≤ H') : F8.Sep own H' (cs ++ [vl, .string s, va]) := by
  cases own with
  | true => exact ⟨fun _ => ((h.apart).snoc (s := s) (n rfl) hH).1, ((h.apart).snoc (s := s) (n rfl) hH).2⟩
  | false =>
    refine ⟨(fun e => by cases e), fun k hk => ?_⟩
    unfold F8.blks at hk
    rw [List.filterMap_append] at hk
    rcases List.mem_append.1 hk with hk | hk
    · exact Nat.lt_of_lt_of_le (h.2 k hk) hH
    · simp only [List.mem_filterMap, List.mem_cons, List.not_mem_nil, or_false] at hk
      obtain ⟨a, rfl | rfl | rfl, e⟩ := hk
      · exact hl k e
      · cases e
      · exact ha k e
theorem OwnZ.blk_lt {base : Nat} {w : World} {v : Value} {l : List (List UInt8)} (h : OwnZ base w v l) {k : Nat} (hk : F8.blk v = some k) : base ≤ k ∧ k < w.heap.size := by
  rcases h with ⟨h1, h2⟩ | ⟨rfl, A, rfl⟩
  · rcases h2 with ⟨rfl, _⟩ | ⟨g, cap, cur, rfl, hb', hh, rest⟩
    · cases hk
    · have := F8.blk_own hk
      simp [Value.ownBlock] at this
      subst this
      exact ⟨hb', (Array.getElem?_eq_some_iff.1 hh).1⟩
  · cases A <;> simp [F8.blk] at hk
theorem F8.Z.blk_lt {own : Bool} {B : Nat} {w : World} {v : Value} {l : List (List UInt8)} (h : F8.Z own B w v l) (hB : B ≤ w.heap.size) {k : Nat} (hk : F8.blk v = some k) : k < w.heap.size := by
  rcases h with h | ⟨_, h2, h3⟩
  · exact (h.blk_lt hk).2
  · obtain ⟨A, c, rfl⟩ := Rd.form h2
    unfold F8.blk at hk
    cases A with
    | none => cases hk
    | some a =>
      dsimp only at hk
      split at hk
      · cases hk
      · rename_i hn
        obtain ⟨_, A', c', e, _, _, h4⟩ := h2
        obtain ⟨g, off, e2, hg, _⟩ := h4 (by omega)
        injection e with e _ _
        rw [e2] at e
        injection e with e
        subst e
        injection hk with hk
        subst hk
        exact hg
def F8.opc (l : F8.Opn) : List Value := l.reverse.flatMap fun p => [Value.string ⟨p.1.toArray⟩, .string ⟨p.2.toArray⟩]
theorem F8.opc_len (l : F8.Opn) : (F8.opc l).length = l.length * 2 := by
  have := flat_length (fun p : List UInt8 × List UInt8 => [Value.string ⟨p.1.toArray⟩, .string ⟨p.2.toArray⟩]) 2 (fun _ => rfl) l.reverse
  rw [List.length_reverse] at this
  exact this
theorem F8.opc_cons (p : List UInt8 × List UInt8) (r : F8.Opn) : F8.opc (p :: r) = F8.opc r ++ [.string ⟨p.1.toArray⟩, .string ⟨p.2.toArray⟩] := by simp [F8.opc]
/-- The maker in block gm; TM, TL, TO: its type, the lines', what is open's. -/
structure F8.Mk (own : Bool) (TM TL TO : TypeId) (B : Nat) (W : World) (gm H : Nat) (S : F8.St) : Prop where
  size : B ≤ W.heap.size
  ge : B ≤ gm
  le : H ≤ W.heap.size
  obj : ∃ vo vp cs, Bk W gm TM #[vo, vp, .int .i64 (S.made : Int)] ∧ W.ownsRow B TL 3 vo S.out.length cs ∧ F8.Ls (F8.Z own B W) S.out cs ∧ W.ownsRow B TO 2 vp S.opn.length (F8.opc S.opn) ∧ F8.Sep own H cs
theorem F8.Mk.kept {own : Bool} {TM TL TO : TypeId} {B : Nat} {W W' : World} {gm H : Nat} {S : F8.St} (h : F8.Mk own TM TL TO B W gm H S) (hb : Below W.heap.size W W') : F8.Mk own TM TL TO B W' gm H S := by
  obtain ⟨vo, vp, cs, h1, h2, h3, h4, h5⟩ := h.obj
  exact ⟨Nat.le_trans h.size hb.size, h.ge, Nat.le_trans h.le hb.size, ⟨vo, vp, cs, h1.kept hb, own_kept h2 hb, h3.map fun _ _ hz => hz.stay (F8.Stay.of hb h.size h1.lt), own_kept h4 hb, h5⟩⟩
theorem F8.Mk.later {own : Bool} {TM TL TO : TypeId} {B : Nat} {W : World} {gm H H' : Nat} {S : F8.St} (h : F8.Mk own TM TL TO B W gm H S) (hH : H ≤ H') (hs : H' ≤ W.heap.size) : F8.Mk own TM TL TO B W gm H' S := by
  obtain ⟨vo, vp, cs, h1, h2, h3, h4, h5⟩ := h.obj
  exact ⟨h.size, h.ge, hs, ⟨vo, vp, cs, h1, h2, h3, h4, h5.mono hH⟩⟩
/-- Types that are all unlike. -/
structure F8.Unlike (TM TL TO : TypeId) : Prop where
  ml : TM ≠ TL
  mo : TM ≠ TO
  lo : TL ≠ TO
  ms : TM ≠ 9
  ls : TL ≠ 9
  os : TO ≠ 9
/-- One more line, stored. -/
theorem F8.Mk.put {own : Bool} {TM TL TO : TypeId} (U : F8.Unlike TM TL TO) {B : Nat} {W W' : World} {gm H : Nat} {S : F8.St} {vo vp v' vl va : Value} {cs : List Value} {x : L6.Line} (hge : B ≤ gm)
    (hs0 : B ≤ W.heap.size) (h1 : Bk W gm TM #[vo, vp, .int .i64 (S.made : Int)]) (h2 : W.ownsRow B TL 3 vo S.out.length cs) (h3 : F8.Ls (F8.Z own B W) S.out cs) (h4 : W.ownsRow B TO 2 vp S.opn.length (F8.opc S.opn)) (h5 : F8.Sep own H cs)
    (hl : F8.Z own B W vl x.labels) (ha : F8.Z own B W va x.args) (hn : own = true → F8.New H W.heap.size vl va) (hH : H ≤ W.heap.size) (ho : W'.ownsRow B TL 3 v' (S.out.length + 1) (cs ++ [vl, .string ⟨x.word.toArray⟩, va])) (hb : Below B W W') (hg : W.grownBy W' vo.ownBlock) (hv : F8.Where vo v' W.heap.size) :
    Bk W' gm TM #[vo, vp, .int .i64 (S.made : Int)] ∧ F8.Mk own TM TL TO B (W'.setCell ⟨gm, 0, none⟩ v') gm W.heap.size ⟨S.out ++ [x], S.opn, S.made⟩ ∧ F8.Stay gm B W (W'.setCell ⟨gm, 0, none⟩ v') := by
  have hk := bk_other U.ml h2 hg h1
  have hk2 : Bk (W'.setCell ⟨gm, 0, none⟩ v') gm TM #[v', vp, .int .i64 (S.made : Int)] := by
    have := hk.set 0 v'
    simpa using this
  have hst : F8.Stay gm B W (W'.setCell ⟨gm, 0, none⟩ v') := F8.stay_set h1 hg hk (own_ne h2 h1 U.ml) (fun g cs hbk => own_ne h2 hbk (Ne.symm U.ls)) U.ms (fun g hf => hf.2.1 vo (h1.cell 0)) hb hge 0 v'
    (fun g hl hf => ⟨hf.1, (fun v hv0 e => by
      have e0 : v = v' := by have := (hk2.cell 0).symm.trans hv0; simpa using this.symm
      subst e0
      rcases hv g e with e | e
      · exact hf.2.1 vo (h1.cell 0) e
      · omega), (fun v hv0 => by
      have e0 : v = vp := by have := (hk2.cell 1).symm.trans hv0; simpa using this.symm
      subst e0
      exact hf.2.2 v (h1.cell 1))⟩)
  have hbut : But gm W' (W'.setCell ⟨gm, 0, none⟩ v') := But.setCell _ _ _ _
  refine ⟨hk, ⟨Nat.le_trans hs0 hst.below.size, hge, hst.below.size, ⟨v', vp, _, hk2, own_but (by simpa using ho) hk U.ml hbut, ?_, own_but (own_other (Ne.symm U.lo) h2 hg h4) hk U.mo hbut, h5.snoc (fun k hk => hl.blk_lt hs0 hk) (fun k hk => ha.blk_lt hs0 hk) hn hH⟩⟩, hst⟩
  exact F8.Ls.snoc (hl.stay hst) (ha.stay hst) (h3.map fun _ _ hz => hz.stay hst)
/-- One more waits, stored. -/
theorem F8.Mk.push {own : Bool} {TM TL TO : TypeId} (U : F8.Unlike TM TL TO) {B : Nat} {W W' : World} {gm H : Nat} {S : F8.St} {vo vp v' : Value} {cs : List Value} {p : List UInt8 × List UInt8} (hge : B ≤ gm)
    (hs0 : B ≤ W.heap.size) (hH : H ≤ W.heap.size) (h1 : Bk W gm TM #[vo, vp, .int .i64 (S.made : Int)]) (h2 : W.ownsRow B TL 3 vo S.out.length cs) (h3 : F8.Ls (F8.Z own B W) S.out cs) (h4 : W.ownsRow B TO 2 vp S.opn.length (F8.opc S.opn)) (h5 : F8.Sep own H cs)
    (ho : W'.ownsRow B TO 2 v' (S.opn.length + 1) (F8.opc S.opn ++ [.string ⟨p.1.toArray⟩, .string ⟨p.2.toArray⟩])) (hb : Below B W W') (hg : W.grownBy W' vp.ownBlock) (hv : F8.Where vp v' W.heap.size) :
    Bk W' gm TM #[vo, vp, .int .i64 (S.made : Int)] ∧ F8.Mk own TM TL TO B (W'.setCell ⟨gm, 1, none⟩ v') gm H ⟨S.out, p :: S.opn, S.made⟩ ∧ F8.Stay gm B W (W'.setCell ⟨gm, 1, none⟩ v') := by
  have hk := bk_other U.mo h4 hg h1
  have hk2 : Bk (W'.setCell ⟨gm, 1, none⟩ v') gm TM #[vo, v', .int .i64 (S.made : Int)] := by
    have := hk.set 1 v'
    simpa using this
  have hst : F8.Stay gm B W (W'.setCell ⟨gm, 1, none⟩ v') := F8.stay_set h1 hg hk (own_ne h4 h1 U.mo) (fun g cs hbk => own_ne h4 hbk (Ne.symm U.os)) U.ms (fun g hf => hf.2.2 vp (h1.cell 1)) hb hge 1 v'
    (fun g hl hf => ⟨hf.1, (fun v hv0 => by
      have e0 : v = vo := by have := (hk2.cell 0).symm.trans hv0; simpa using this.symm
      subst e0
      exact hf.2.1 v (h1.cell 0)), (fun v hv0 e => by
      have e0 : v = v' := by have := (hk2.cell 1).symm.trans hv0; simpa using this.symm
      subst e0
      rcases hv g e with e | e
      · exact hf.2.2 vp (h1.cell 1) e
      · omega)⟩)
  have hbut : But gm W' (W'.setCell ⟨gm, 1, none⟩ v') := But.setCell _ _ _ _
  exact ⟨hk, ⟨Nat.le_trans hs0 hst.below.size, hge, Nat.le_trans hH hst.below.size, ⟨vo, v', cs, hk2, own_but (own_other U.lo h4 hg h2) hk U.ml hbut, h3.map fun _ _ hz => hz.stay hst, own_but (by simpa [F8.opc_cons] using ho) hk U.mo hbut, h5⟩⟩, hst⟩
/-- A cell of the maker is set: nothing else turns. -/
theorem F8.Mk.set {own : Bool} {TM TL TO : TypeId} (U : F8.Unlike TM TL TO) {B : Nat} {W : World} {gm H : Nat} {S S' : F8.St} {vo vp vp' : Value} {cs : List Value} (hge : B ≤ gm) (hs0 : B ≤ W.heap.size) (hH : H ≤ W.heap.size)
    (h1 : Bk W gm TM #[vo, vp, .int .i64 (S.made : Int)]) (h2 : W.ownsRow B TL 3 vo S.out.length cs) (h3 : F8.Ls (F8.Z own B W) S.out cs) (h5 : F8.Sep own H cs) (i : Nat) (u : Value)
    (hS : S'.out = S.out) (he : (#[vo, vp, Value.int .i64 (S.made : Int)] : Array Value).setIfInBounds i u = #[vo, vp', .int .i64 (S'.made : Int)]) (h4 : W.ownsRow B TO 2 vp' S'.opn.length (F8.opc S'.opn)) (hv : ∀ k, vp'.ownBlock = some k → vp.ownBlock = some k) :
    F8.Mk own TM TL TO B (W.setCell ⟨gm, i, none⟩ u) gm H S' ∧ F8.Stay gm B W (W.setCell ⟨gm, i, none⟩ u) := by
  have hk2 : Bk (W.setCell ⟨gm, i, none⟩ u) gm TM #[vo, vp', .int .i64 (S'.made : Int)] := by
    have := h1.set i u
    rwa [he] at this
  have hst : F8.Stay gm B W (W.setCell ⟨gm, i, none⟩ u) := F8.stay_set (row := none) h1 ⟨rfl, rfl, rfl, Nat.le_refl _, fun _ _ _ => rfl⟩ h1 (by simp) (fun _ _ _ => by simp) U.ms (fun _ _ => by simp) (Below.refl _ _) hge i u
    (fun g hl hf => ⟨hf.1, (fun v hv0 => by
      have e0 : v = vo := by have := (hk2.cell 0).symm.trans hv0; simpa using this.symm
      subst e0
      exact hf.2.1 v (h1.cell 0)), (fun v hv0 e => by
      have e0 : v = vp' := by have := (hk2.cell 1).symm.trans hv0; simpa using this.symm
      subst e0
      exact hf.2.2 vp (h1.cell 1) (hv g e))⟩)
  have hbut : But gm W (W.setCell ⟨gm, i, none⟩ u) := But.setCell _ _ _ _
  refine ⟨⟨Nat.le_trans hs0 hst.below.size, hge, Nat.le_trans hH hst.below.size, ⟨vo, vp', cs, hk2, own_but (by rw [hS]; exact h2) h1 U.ml hbut, ?_, own_but h4 h1 U.mo hbut, h5⟩⟩, hst⟩
  rw [hS]
  exact h3.map fun _ _ hz => hz.stay hst
/-- A block that is new lies apart from the maker's. -/
theorem F8.Mk.free {own : Bool} {TM TL TO : TypeId} {B : Nat} {W W' : World} {gm H : Nat} {S : F8.St} (h : F8.Mk own TM TL TO B W gm H S) (hb : Below W.heap.size W W') {g : Nat} (hg : W.heap.size ≤ g) : F8.Free gm W' g := by
  obtain ⟨vo, vp, cs, h1, h2, h3, h4, h5⟩ := h.obj
  have hk := h1.kept hb
  refine ⟨by have := h1.lt; omega, fun v hv e => ?_, fun v hv e => ?_⟩
  · have e0 : v = vo := by have := (hk.cell 0).symm.trans hv; simpa using this.symm
    subst e0
    have := own_lt h2 e
    omega
  · have e0 : v = vp := by have := (hk.cell 1).symm.trans hv; simpa using this.symm
    subst e0
    have := own_lt h4 e
    omega
theorem F8.Mk.lt {own : Bool} {TM TL TO : TypeId} {B : Nat} {W : World} {gm H : Nat} {S : F8.St} (h : F8.Mk own TM TL TO B W gm H S) : gm < W.heap.size := by
  obtain ⟨vo, vp, cs, h1, _⟩ := h.obj
  exact h1.lt
/-- A block that is not the maker's, over what the maker does. -/
theorem F8.Stay.bk {gm B : Nat} {w w' : World} (h : F8.Stay gm B w w') {g : Nat} {t : TypeId} {cs : Array Value} (hk : Bk w g t cs) (hf : F8.Free gm w g) : Bk w' g t cs ∧ F8.Free gm w' g := by
  obtain ⟨e, f⟩ := h.keep g hk.lt hf
  exact ⟨e.trans hk, f⟩
/-- A line more, as the walk meets it: the row, the source, and what the store leaves. -/
theorem F8.Mk.roomAt {own : Bool} {TM TL TO : TypeId} (U : F8.Unlike TM TL TO) {P : Program} {TS : TypeId} (rt : RowTy P TS TL 3 64) {B : Nat} {W : World} {gm H : Nat} {S : F8.St} (h : F8.Mk own TM TL TO B W gm H S) (x : L6.Line) {vl va : Value}
    (hl : F8.Z own B W vl x.labels) (ha : F8.Z own B W va x.args) (hn : own = true → F8.New H W.heap.size vl va) :
    ∃ A c cs, W.cell? ⟨gm, 0, none⟩ = some (.slice A S.out.length c) ∧ W.frozen? ⟨gm, 0, none⟩ = false ∧ (∀ W', Below W.heap.size W W' → W'.cell? ⟨gm, 0, none⟩ = some (.slice A S.out.length c)) ∧
      ∀ Wa, Below W.heap.size W Wa → Wa.heap.size = W.heap.size + 1 → Bk Wa W.heap.size TL #[vl, .string ⟨x.word.toArray⟩, va] →
      Wa.ownsRow B TL 3 (.slice A S.out.length c) S.out.length cs ∧
      Src P 3 TS (.slice (some ⟨W.heap.size, 0, none⟩) 1 1) 1 [vl, .string ⟨x.word.toArray⟩, va] Wa ∧ B ≤ Wa.heap.size ∧
      ∀ v' w', w'.ownsRow B TL 3 v' (S.out.length + 1) (cs ++ [vl, .string ⟨x.word.toArray⟩, va]) → Below B Wa w' → Wa.grownBy w' (Value.slice A S.out.length c).ownBlock → F8.Where (Value.slice A S.out.length c) v' Wa.heap.size →
        (∃ A' c', v' = .slice A' (S.out.length + 1) c') ∧ w'.cell? ⟨gm, 0, none⟩ = some (.slice A S.out.length c) ∧ w'.frozen? ⟨gm, 0, none⟩ = false ∧ Hid (F8.Mk own TM TL TO B (w'.setCell ⟨gm, 0, none⟩ v') gm (W.heap.size + 1) ⟨S.out ++ [x], S.opn, S.made⟩ ∧ F8.Stay gm B W (w'.setCell ⟨gm, 0, none⟩ v')) := by
  obtain ⟨vo, vp, cs, h1, h2, h3, h4, h5⟩ := h.obj
  obtain ⟨A, c, rfl⟩ := (Rd.of_own h2).form
  obtain ⟨A1, c1, e1⟩ := hl.form
  obtain ⟨A2, c2, e2⟩ := ha.form
  refine ⟨A, c, cs, h1.cell 0, h1.free 0, fun W' hb => (h1.kept hb).cell 0, fun Wa hal hsz hbk => ?_⟩
  have hst : F8.Stay gm B W Wa := F8.Stay.of hal h.size h1.lt
  refine ⟨own_kept h2 hal, Rd.src rt (Rd.built hbk rfl) ?_, by rw [hsz]; exact Nat.le_succ_of_le h.size, ?_⟩
  · intro u hu
    simp only [List.mem_cons, List.not_mem_nil, or_false] at hu
    rcases hu with rfl | rfl | rfl
    · rw [e1]; rfl
    · rfl
    · rw [e2]; rfl
  · intro v' w' ho hb hg hv
    obtain ⟨hk, hm, hs⟩ := F8.Mk.put U h.ge (by rw [hsz]; exact Nat.le_succ_of_le h.size) (h1.kept hal) (own_kept h2 hal) (h3.map fun _ _ hz => hz.stay hst) (own_kept h4 hal) h5 (hl.stay hst) (ha.stay hst)
      (fun e => ⟨fun k hk => ⟨((hn e).l k hk).1, by have := ((hn e).l k hk).2; omega⟩, fun k hk => ⟨((hn e).a k hk).1, by have := ((hn e).a k hk).2; omega⟩, (hn e).la⟩) (by have := h.le; omega) ho hb hg hv
    rw [hsz] at hm
    exact ⟨(Rd.of_own ho).form, hk.cell 0, hk.free 0, Lib.hid ⟨hm, hst.trans hs⟩⟩
/-- The same behind a draw. -/
theorem F8.Mk.room {own : Bool} {TM TL TO : TypeId} (U : F8.Unlike TM TL TO) {P : Program} {TS : TypeId} (rt : RowTy P TS TL 3 64) {B : Nat} {W : World} {gm H : Nat} {S : F8.St} (h : F8.Mk own TM TL TO B W gm H S) (x : L6.Line) {vl va : Value}
    (hl : F8.Z own B W vl x.labels) (ha : F8.Z own B W va x.args) (hn : own = true → F8.New H W.heap.size vl va) :
    ∃ A c cs, W.cell? ⟨gm, 0, none⟩ = some (.slice A S.out.length c) ∧ W.frozen? ⟨gm, 0, none⟩ = false ∧ (∀ W', Below W.heap.size W W' → W'.cell? ⟨gm, 0, none⟩ = some (.slice A S.out.length c)) ∧
      (W.drew.alloc (.cells #[vl, .string ⟨x.word.toArray⟩, va] TL)).ownsRow B TL 3 (.slice A S.out.length c) S.out.length cs ∧
      Src P 3 TS (.slice (some ⟨W.heap.size, 0, none⟩) 1 1) 1 [vl, .string ⟨x.word.toArray⟩, va] (W.drew.alloc (.cells #[vl, .string ⟨x.word.toArray⟩, va] TL)) ∧ B ≤ (W.drew.alloc (.cells #[vl, .string ⟨x.word.toArray⟩, va] TL)).heap.size ∧
      ∀ v' w', w'.ownsRow B TL 3 v' (S.out.length + 1) (cs ++ [vl, .string ⟨x.word.toArray⟩, va]) → Below B (W.drew.alloc (.cells #[vl, .string ⟨x.word.toArray⟩, va] TL)) w' → (W.drew.alloc (.cells #[vl, .string ⟨x.word.toArray⟩, va] TL)).grownBy w' (Value.slice A S.out.length c).ownBlock → F8.Where (Value.slice A S.out.length c) v' (W.drew.alloc (.cells #[vl, .string ⟨x.word.toArray⟩, va] TL)).heap.size →
        (∃ A' c', v' = .slice A' (S.out.length + 1) c') ∧ w'.cell? ⟨gm, 0, none⟩ = some (.slice A S.out.length c) ∧ w'.frozen? ⟨gm, 0, none⟩ = false ∧ Hid (F8.Mk own TM TL TO B (w'.setCell ⟨gm, 0, none⟩ v') gm (W.heap.size + 1) ⟨S.out ++ [x], S.opn, S.made⟩ ∧ F8.Stay gm B W (w'.setCell ⟨gm, 0, none⟩ v')) := by
  obtain ⟨A, c, cs, h1, h2, h3, h4⟩ := F8.Mk.roomAt U rt h x hl ha hn
  obtain ⟨e1, e2, e3, e4⟩ := h4 (W.drew.alloc (.cells #[vl, .string ⟨x.word.toArray⟩, va] TL)) ((Below.refl _ _).drew.alloc (Nat.le_refl _) _) (by simp) (Bk.fresh W.drew _ _)
  exact ⟨A, c, cs, h1, h2, h3, e1, e2, e3, e4⟩
/-- The same without a draw. -/
theorem F8.Mk.room0 {own : Bool} {TM TL TO : TypeId} (U : F8.Unlike TM TL TO) {P : Program} {TS : TypeId} (rt : RowTy P TS TL 3 64) {B : Nat} {W : World} {gm H : Nat} {S : F8.St} (h : F8.Mk own TM TL TO B W gm H S) (x : L6.Line) {vl va : Value}
    (hl : F8.Z own B W vl x.labels) (ha : F8.Z own B W va x.args) (hn : own = true → F8.New H W.heap.size vl va) :
    ∃ A c cs, W.cell? ⟨gm, 0, none⟩ = some (.slice A S.out.length c) ∧ W.frozen? ⟨gm, 0, none⟩ = false ∧ (∀ W', Below W.heap.size W W' → W'.cell? ⟨gm, 0, none⟩ = some (.slice A S.out.length c)) ∧
      (W.alloc (.cells #[vl, .string ⟨x.word.toArray⟩, va] TL)).ownsRow B TL 3 (.slice A S.out.length c) S.out.length cs ∧
      Src P 3 TS (.slice (some ⟨W.heap.size, 0, none⟩) 1 1) 1 [vl, .string ⟨x.word.toArray⟩, va] (W.alloc (.cells #[vl, .string ⟨x.word.toArray⟩, va] TL)) ∧ B ≤ (W.alloc (.cells #[vl, .string ⟨x.word.toArray⟩, va] TL)).heap.size ∧
      ∀ v' w', w'.ownsRow B TL 3 v' (S.out.length + 1) (cs ++ [vl, .string ⟨x.word.toArray⟩, va]) → Below B (W.alloc (.cells #[vl, .string ⟨x.word.toArray⟩, va] TL)) w' → (W.alloc (.cells #[vl, .string ⟨x.word.toArray⟩, va] TL)).grownBy w' (Value.slice A S.out.length c).ownBlock → F8.Where (Value.slice A S.out.length c) v' (W.alloc (.cells #[vl, .string ⟨x.word.toArray⟩, va] TL)).heap.size →
        (∃ A' c', v' = .slice A' (S.out.length + 1) c') ∧ w'.cell? ⟨gm, 0, none⟩ = some (.slice A S.out.length c) ∧ w'.frozen? ⟨gm, 0, none⟩ = false ∧ Hid (F8.Mk own TM TL TO B (w'.setCell ⟨gm, 0, none⟩ v') gm (W.heap.size + 1) ⟨S.out ++ [x], S.opn, S.made⟩ ∧ F8.Stay gm B W (w'.setCell ⟨gm, 0, none⟩ v')) := by
  obtain ⟨A, c, cs, h1, h2, h3, h4⟩ := F8.Mk.roomAt U rt h x hl ha hn
  obtain ⟨e1, e2, e3, e4⟩ := h4 (W.alloc (.cells #[vl, .string ⟨x.word.toArray⟩, va] TL)) ((Below.refl _ _).alloc (Nat.le_refl _) _) (by simp) (Bk.fresh W _ _)
  exact ⟨A, c, cs, h1, h2, h3, e1, e2, e3, e4⟩
theorem own_grown_ne {base : Nat} {w w' : World} {T' : TypeId} {v u : Value} {size' m : Nat} {xs : List Value} (hu : w.ownsRow base T' size' u m xs) (hg : w.grownBy w' v.ownBlock) (hne : ∀ k, u.ownBlock = some k → v.ownBlock ≠ some k) : w'.ownsRow base T' size' u m xs := by
  obtain ⟨e1, e2⟩ := hu
  refine ⟨e1, ?_⟩
  rcases e2 with e2 | ⟨g', cap, cur, rfl, hb', hh, rest⟩
  · exact .inl e2
  · exact .inr ⟨g', cap, cur, rfl, hb', (hg.block g' (Array.getElem?_eq_some_iff.1 hh).1 (fun e => hne g' rfl e.symm)).trans hh, rest⟩
theorem F8.Ls.mapLt {R R' : Value → List (List UInt8) → Prop} {H : Nat} (h : ∀ u l, (∀ k, F8.blk u = some k → k < H) → R u l → R' u l) : ∀ {ls : List L6.Line} {cs : List Value}, F8.Ls R ls cs → (∀ k ∈ F8.blks cs, k < H) → F8.Ls R' ls cs
  | [], _, e, _ => e
  | x :: t, _, ⟨vl, va, r, e, a1, a2, a3⟩, hlt => by
    subst e
    have e0 : F8.blks (vl :: .string ⟨x.word.toArray⟩ :: va :: r) = (F8.blk vl).toList ++ ((F8.blk va).toList ++ F8.blks r) := by
      have es : F8.blk (.string ⟨x.word.toArray⟩) = none := rfl
      unfold F8.blks
      cases h1 : F8.blk vl <;> cases h2 : F8.blk va <;> simp [List.filterMap_cons, h1, h2, es]
    rw [e0] at hlt
    exact ⟨vl, va, r, rfl, h _ _ (fun k hk => hlt k (by simp [hk])) a1, h _ _ (fun k hk => hlt k (by simp [hk])) a2, F8.Ls.mapLt h a3 (fun k hk => hlt k (by simp [hk]))⟩
/-- A row of texts that is no line's grows. -/
theorem F8.Mk.grownText {TM TL TO : TypeId} (U : F8.Unlike TM TL TO) {B base : Nat} {W W' : World} {gm H : Nat} {S : F8.St} (h : F8.Mk false TM TL TO B W gm H S) {v : Value} {n : Nat} {xs : List Value} (hv : W.ownsRow base 9 1 v n xs) (hge : ∀ k, v.ownBlock = some k → H ≤ k) (hg : W.grownBy W' v.ownBlock) (hb : Below B W W') :
    F8.Mk false TM TL TO B W' gm H S := by
  obtain ⟨vo, vp, cs, h1, h2, h3, h4, h5⟩ := h.obj
  refine ⟨Nat.le_trans h.size hb.size, h.ge, Nat.le_trans h.le hb.size, ⟨vo, vp, cs, bk_other U.ms hv hg h1, own_other U.ls hv hg h2, ?_, own_other U.os hv hg h4, h5⟩⟩
  have hz : ∀ u l, (∀ k, F8.blk u = some k → k < H) → F8.Z false B W u l → F8.Z false B W' u l := by
    intro u l hk hz
    obtain ⟨A, c, rfl⟩ := hz.form
    cases l with
    | nil =>
      refine .inr ⟨rfl, ?_, fun g off n c e hn => absurd hn (by injection e with _ e _; rw [← e]; simp)⟩
      obtain ⟨_, A', c', e, q1, q2, _⟩ := hz.rd
      injection e with e1 e2 e3
      subst e1 e3
      exact ⟨by simp [L6.sv], A, c, rfl, q1, q2, fun hn => absurd hn (by simp)⟩
    | cons y t =>
      have hne : ∀ g off, A = some ⟨g, off, none⟩ → v.ownBlock ≠ some g := by
        rintro g off rfl e
        have := hge g e
        have := hk g (by simp [F8.blk])
        omega
      rcases hz with hz | ⟨_, e2, e3⟩
      · refine .inl ?_
        rcases hz with hz | ⟨hz, _⟩
        · refine .inl (own_grown_ne hz hg fun k hk' => ?_)
          rcases hz.2 with ⟨_, h0⟩ | ⟨g, cap, cur, e, rest⟩
          · simp at h0
          · injection e with e _ _
            subst e
            simp [Value.ownBlock] at hk'
            subst hk'
            exact hne g 0 rfl
        · cases hz
      · exact .inr ⟨rfl, Rd.keep e2 hb.size fun g off c e hn hg' => hb.block g (e3 g off _ c e hn), e3⟩
  exact F8.Ls.mapLt hz h3 h5.2
/-- One more waits, as the walk meets it. -/
theorem F8.Mk.pushAt {own : Bool} {TM TL TO : TypeId} (U : F8.Unlike TM TL TO) {P : Program} {TS : TypeId} (rt : RowTy P TS TO 2 32) {B : Nat} {W : World} {gm H : Nat} {S : F8.St} (h : F8.Mk own TM TL TO B W gm H S) (x k : List UInt8) :
    ∃ A c, W.cell? ⟨gm, 1, none⟩ = some (.slice A S.opn.length c) ∧ (W.alloc (.cells #[.string ⟨x.toArray⟩, .string ⟨k.toArray⟩] TO)).ownsRow B TO 2 (.slice A S.opn.length c) S.opn.length (F8.opc S.opn) ∧
      Src P 2 TS (.slice (some ⟨W.heap.size, 0, none⟩) 1 1) 1 [.string ⟨x.toArray⟩, .string ⟨k.toArray⟩] (W.alloc (.cells #[.string ⟨x.toArray⟩, .string ⟨k.toArray⟩] TO)) ∧ B ≤ (W.alloc (.cells #[.string ⟨x.toArray⟩, .string ⟨k.toArray⟩] TO)).heap.size ∧
      ∀ v' w', w'.ownsRow B TO 2 v' (S.opn.length + 1) (F8.opc S.opn ++ [.string ⟨x.toArray⟩, .string ⟨k.toArray⟩]) → Below B (W.alloc (.cells #[.string ⟨x.toArray⟩, .string ⟨k.toArray⟩] TO)) w' → (W.alloc (.cells #[.string ⟨x.toArray⟩, .string ⟨k.toArray⟩] TO)).grownBy w' (Value.slice A S.opn.length c).ownBlock → F8.Where (Value.slice A S.opn.length c) v' (W.alloc (.cells #[.string ⟨x.toArray⟩, .string ⟨k.toArray⟩] TO)).heap.size →
        (∃ A' c', v' = .slice A' (S.opn.length + 1) c') ∧ w'.cell? ⟨gm, 1, none⟩ = some (.slice A S.opn.length c) ∧ w'.frozen? ⟨gm, 1, none⟩ = false ∧ Hid (F8.Mk own TM TL TO B (w'.setCell ⟨gm, 1, none⟩ v') gm H ⟨S.out, (x, k) :: S.opn, S.made⟩ ∧ F8.Stay gm B W (w'.setCell ⟨gm, 1, none⟩ v')) := by
  obtain ⟨vo, vp, cs, h1, h2, h3, h4, h5⟩ := h.obj
  obtain ⟨A, c, rfl⟩ := (Rd.of_own h4).form
  have hal : Below W.heap.size W (W.alloc (.cells #[.string ⟨x.toArray⟩, .string ⟨k.toArray⟩] TO)) := (Below.refl _ _).alloc (Nat.le_refl _) _
  have hst : F8.Stay gm B W (W.alloc (.cells #[.string ⟨x.toArray⟩, .string ⟨k.toArray⟩] TO)) := F8.Stay.of hal h.size h1.lt
  refine ⟨A, c, h1.cell 1, own_kept h4 hal, Rd.src rt (Rd.built (Bk.fresh W _ _) rfl) (by intro u hu; simp at hu; rcases hu with rfl | rfl <;> rfl), Nat.le_trans h.size hal.size, fun v' w' ho hb hg hv => ?_⟩
  obtain ⟨hk, hm, hs⟩ := F8.Mk.push U (own := own) (S := S) (p := (x, k)) h.ge (Nat.le_trans h.size hal.size) (Nat.le_trans h.le hal.size) (h1.kept hal) (own_kept h2 hal) (h3.map fun _ _ hz => hz.stay hst) (own_kept h4 hal) h5 ho hb hg hv
  exact ⟨(Rd.of_own ho).form, hk.cell 1, hk.free 1, Lib.hid ⟨hm, hst.trans hs⟩⟩
/-- append as a step of a drawn region, saying where the new row lies. -/
theorem step_appendRB {P : Program} {w : World} {ops : Array Oper} {o : Oper} {a : Act} {K : Act → World → Prop} {Q : Exit → Act → World → Prop} {E : Prop} (hgd : o.guard = none) (s x : Operand) (t tx : TypeId)
    (ho : o.op = .call { callee := .builtin .append, args := #[s, x], argTypes := #[t, tx] }) {e : TypeId} {size bytes : Nat} (rt : RowTy P t e size bytes) (hsz : 0 < size) (base : Nat) (v : Value) (hs : a.eval s = v) (n : Nat) (xs : List Value)
    (hown : w.ownsRow base e size v n xs) (vx : Value) (hx : a.eval x = vx) (m : Nat) (news : List Value) (hsrc : Src P size tx vx m news w) (hlen : (n + m) * bytes ≤ 140737488355328) (h63 : n + m ≤ maxLen) (hbase : base ≤ w.heap.size)
    (h : ∀ v' w', w'.ownsRow base e size v' (n + m) (xs ++ news) → Below base w w' → w.grownBy w' v.ownBlock → F8.Where v v' w.heap.size → K (a.put o.dst v') w') :
    if Region.wanted o (yielded ops a.tmps) = true then Oper.wp P o a w K Q else E := by
  have hw : Region.wanted o (yielded ops a.tmps) = true := by simp [Region.wanted, hgd]
  rw [if_pos hw]
  obtain ⟨v', w', hr, h2, h3, h4, h5⟩ := run_appendRB (P := P) w tx o.type rt hsz base v n xs hown vx m news hsrc hlen h63 hbase
  unfold Oper.wp execOp
  simp only [ho, resolve, invoke, builtin, Sem.run_bind, Sem.run_pure, Result.andThen_ok, List.map_toArray, List.map_cons, List.map_nil, hs, hx, hr]
  exact h v' w' h2 h3 h4 h5
/-- The last one of a row goes. -/
theorem own_shrink {w : World} {base : Nat} {e : TypeId} {size : Nat} {A : Option Addr} {n c : Nat} {xs : List Value} (h : w.ownsRow base e size (.slice A (n + 1) c) (n + 1) xs) : w.ownsRow base e size (.slice A n c) n (xs.take (n * size)) := by
  obtain ⟨h1, h2⟩ := h
  rcases h2 with ⟨h2, h0⟩ | ⟨g, cap, cur, e1, hb, hh, hnc, hcm, hcs, htake⟩
  · omega
  · have hle : n * size ≤ (n + 1) * size := Nat.mul_le_mul_right _ (Nat.le_succ n)
    injection e1 with e1 e2 e3
    subst e1 e3
    refine ⟨by rw [List.length_take, h1]; omega, .inr ⟨g, c, cur, rfl, hb, hh, by omega, hcm, hcs, ?_⟩⟩
    rw [← htake, List.take_take, Nat.min_eq_left hle]
theorem F8.own_pop {w : World} {base : Nat} {e : TypeId} {A : Option Addr} {n c : Nat} {p : List UInt8 × List UInt8} {r : F8.Opn} (h : w.ownsRow base e 2 (.slice A (n + 1) c) (n + 1) (F8.opc (p :: r))) (hn : r.length = n) : w.ownsRow base e 2 (.slice A n c) n (F8.opc r) := by
  have := own_shrink h
  rw [F8.opc_cons, List.take_append_of_le_length (by rw [F8.opc_len, hn]; exact Nat.le_refl _), List.take_of_length_le (by rw [F8.opc_len, hn]; exact Nat.le_refl _)] at this
  exact this
end Go.Proofs.YtfafdkbnmfpbmaaDoor
