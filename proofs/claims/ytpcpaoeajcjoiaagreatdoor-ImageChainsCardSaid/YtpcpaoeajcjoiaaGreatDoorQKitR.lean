/- Texts joined, what is not reached left out. -/
import Derived.Test.YtpcpaoeajcjoiaaGreatDoorQKitB
import Derived.Laws.CopyOwn
import Derived.Laws.IdiomCopy
/- Rows of cells in memory: blocks known whole, slices that read as a list, new slices out of old ones. Of no program. -/
namespace Go.Proofs.YtpcpaoeajcjoiaaGreatDoor.Kit
open Go.RowKit
set_option linter.unusedVariables false
set_option linter.unusedSimpArgs false

/-- Block g is just these cells. -/
def Bk (w : World) (g : Nat) (t : TypeId) (cs : Array Value) : Prop := w.heap[g]? = some (.cells cs t (0, 0))
theorem Bk.lt {w : World} {g : Nat} {t : TypeId} {cs : Array Value} (h : Bk w g t cs) : g < w.heap.size := (Array.getElem?_eq_some_iff.1 h).1
theorem Bk.cell {w : World} {g : Nat} {t : TypeId} {cs : Array Value} (h : Bk w g t cs) (i : Nat) : w.cell? ⟨g, i, none⟩ = cs[i]? := by
  unfold Bk at h; simp [World.cell?, h]
theorem Bk.free {w : World} {g : Nat} {t : TypeId} {cs : Array Value} (h : Bk w g t cs) (i : Nat) : w.frozen? ⟨g, i, none⟩ = false := by
  unfold Bk at h; simp [World.frozen?, h]
theorem Bk.below {w w' : World} {g B : Nat} {t : TypeId} {cs : Array Value} (h : Bk w g t cs) (hb : Below B w w') (hg : g < B) : Bk w' g t cs := (hb.block g hg).trans h
theorem Bk.kept {w w' : World} {g : Nat} {t : TypeId} {cs : Array Value} (h : Bk w g t cs) (hb : Below w.heap.size w w') : Bk w' g t cs := h.below hb h.lt
theorem Bk.fresh (w : World) (t : TypeId) (cs : Array Value) : Bk (w.alloc (.cells cs t)) w.heap.size t cs := heap_alloc_new w _
theorem Bk.set {w : World} {g : Nat} {t : TypeId} {cs : Array Value} (h : Bk w g t cs) (i : Nat) (u : Value) : Bk (w.setCell ⟨g, i, none⟩ u) g t (cs.setIfInBounds i u) := by
  unfold Bk at h ⊢
  simp [World.setCell, Array.getElem?_modify, h]
theorem Bk.setRow {w : World} {g : Nat} {t : TypeId} {cs : Array Value} (h : Bk w g t cs) (cs' : Array Value) : Bk (w.setRow g cs') g t cs' := setRow_heap w g cs cs' t (0, 0) h
theorem Bk.uniq {w : World} {g : Nat} {t t' : TypeId} {cs cs' : Array Value} (h : Bk w g t cs) (h' : Bk w g t' cs') : t = t' ∧ cs = cs' := by
  unfold Bk at h h'
  rw [h] at h'
  injection h' with h'
  injection h' with h1 h2
  exact ⟨h2, h1⟩
/-- Blocks of unlike element types are unlike. -/
theorem Bk.ne {w : World} {g g' : Nat} {t t' : TypeId} {cs cs' : Array Value} (h : Bk w g t cs) (h' : Bk w g' t' cs') (hne : t ≠ t') : g ≠ g' := by
  rintro rfl; exact hne (h.uniq h').1

/-- 'All but block g is as it was', and what is new. -/
def But (g : Nat) (w w' : World) : Prop := w.grownBy w' (some g)
theorem But.block {g k : Nat} {w w' : World} (h : But g w w') (hk : k < w.heap.size) (hne : k ≠ g) : w'.heap[k]? = w.heap[k]? :=
  World.grownBy.block h k hk (fun e => hne (by injection e))
theorem But.bk {g k : Nat} {w w' : World} {t : TypeId} {cs : Array Value} (h : But g w w') (hk : Bk w k t cs) (hne : k ≠ g) : Bk w' k t cs := (h.block hk.lt hne).trans hk
theorem But.size {g : Nat} {w w' : World} (h : But g w w') : w.heap.size ≤ w'.heap.size := World.grownBy.size h
theorem But.of_below {g : Nat} {w w' : World} (h : Below w.heap.size w w') : But g w w' := ⟨h.os, h.tape, h.output, h.size, fun i hi _ => h.block i hi⟩
theorem But.trans {g : Nat} {a b c : World} (h : But g a b) (k : But g b c) : But g a c :=
  ⟨(World.grownBy.os k).trans (World.grownBy.os h), (World.grownBy.tape k).trans (World.grownBy.tape h), (World.grownBy.output k).trans (World.grownBy.output h), Nat.le_trans h.size k.size,
    fun i hi hne => (World.grownBy.block k i (Nat.lt_of_lt_of_le hi h.size) hne).trans (World.grownBy.block h i hi hne)⟩
theorem But.below {g B : Nat} {w w' : World} (h : But g w w') (hB : B ≤ g) (hs : B ≤ w.heap.size) : Below B w w' :=
  (Below.refl B w).grown h hs (fun k hk => by injection hk with hk; omega)
theorem But.setRow (w : World) (g : Nat) (cs : Array Value) : But g w (w.setRow g cs) := ⟨rfl, rfl, rfl, by simp [World.setRow], fun k _ hk => setRow_other w g k cs (fun e => hk (by rw [e]))⟩
theorem But.setCell (w : World) (g i : Nat) (u : Value) : But g w (w.setCell ⟨g, i, none⟩ u) := ⟨rfl, rfl, rfl, by simp [World.setCell], fun k _ hk => Below.heap_setCell w _ u k (fun e => hk (by rw [e]))⟩

/-- v reads as these cells: n elements of 'size' cells each. -/
def Rd (w : World) (size : Nat) (v : Value) (n : Nat) (xs : List Value) : Prop :=
  xs.length = n * size ∧ ∃ A c, v = .slice A n c ∧ n ≤ c ∧ c ≤ maxLen ∧ (0 < n → ∃ g off, A = some ⟨g, off, none⟩ ∧ g < w.heap.size ∧ ∀ j u, xs[j]? = some u → w.cell? ⟨g, off + j, none⟩ = some u)
theorem Rd.form {w : World} {size : Nat} {v : Value} {n : Nat} {xs : List Value} (h : Rd w size v n xs) : ∃ A c, v = .slice A n c := by
  obtain ⟨_, A, c, h, _⟩ := h; exact ⟨A, c, h⟩
theorem Rd.nil (w : World) (size : Nat) : Rd w size (.slice none 0 0) 0 [] := ⟨by simp, none, 0, rfl, Nat.le_refl _, Nat.zero_le _, fun h => absurd h (by omega)⟩
theorem Rd.len {w : World} {size : Nat} {v : Value} {n : Nat} {xs : List Value} (h : Rd w size v n xs) : xs.length = n * size := h.1
/-- The block a reading lies in: 'no element, or the block is not g'. -/
def Off (v : Value) (g : Nat) : Prop := ∀ k off n c, v = .slice (some ⟨k, off, none⟩) n c → 0 < n → k ≠ g
theorem Rd.keep {w w' : World} {size : Nat} {v : Value} {n : Nat} {xs : List Value} (h : Rd w size v n xs) (hs : w.heap.size ≤ w'.heap.size)
    (hk : ∀ g off c, v = .slice (some ⟨g, off, none⟩) n c → 0 < n → g < w.heap.size → w'.heap[g]? = w.heap[g]?) : Rd w' size v n xs := by
  obtain ⟨h1, A, c, rfl, h2, h3, h4⟩ := h
  refine ⟨h1, A, c, rfl, h2, h3, fun hn => ?_⟩
  obtain ⟨g, off, rfl, hg, hc⟩ := h4 hn
  exact ⟨g, off, rfl, Nat.lt_of_lt_of_le hg hs, fun j u hu => (World.cell?_of_block (a := ⟨g, off + j, none⟩) (hk g off c rfl hn hg)).trans (hc j u hu)⟩
theorem Rd.kept {w w' : World} {size : Nat} {v : Value} {n : Nat} {xs : List Value} (h : Rd w size v n xs) (hb : Below w.heap.size w w') : Rd w' size v n xs := h.keep hb.size fun g _ _ _ _ hg => hb.block g hg
theorem Rd.but {w w' : World} {size g : Nat} {v : Value} {n : Nat} {xs : List Value} (h : Rd w size v n xs) (hb : But g w w') (ho : Off v g) : Rd w' size v n xs := h.keep hb.size fun k off c e hn hk => hb.block hk (ho k off n c e hn)
theorem Rd.below {w w' : World} {size B : Nat} {v : Value} {n : Nat} {xs : List Value} (h : Rd w size v n xs) (hb : Below B w w') (ho : ∀ k off c, v = .slice (some ⟨k, off, none⟩) n c → 0 < n → k < B) : Rd w' size v n xs := h.keep hb.size fun k off c e hn hk => hb.block k (ho k off c e hn)

/-- What the walk must know of a slice type and its element type. -/
structure RowTy (P : Program) (t e : TypeId) (size bytes : Nat) : Prop where
  slice : P.underlying t = some (.slice e)
  info : ∃ i z, P.info? e = some i ∧ i.zero = some z ∧ i.size = size ∧ i.bytes = bytes ∧ z.cells.size = size

theorem Rd.src {P : Program} {t e : TypeId} {size bytes : Nat} (ty : RowTy P t e size bytes) {w : World} {v : Value} {n : Nat} {xs : List Value} (h : Rd w size v n xs) (h1 : ∀ u ∈ xs, u.oneCell' = true) : Src P size t v n xs w := by
  obtain ⟨hl, A, c, rfl, h2, h3, h4⟩ := h
  cases A with
  | none =>
    have hn : n = 0 := by
      rcases Nat.eq_zero_or_pos n with h0 | h0
      · exact h0
      · obtain ⟨g, off, h, _⟩ := h4 h0; cases h
    subst hn
    obtain rfl : xs = [] := List.eq_nil_of_length_eq_zero (by simpa using hl)
    exact Src.ofNil w ty.slice c
  | some a =>
    refine Src.ofSlice w ty.slice a n c xs hl ?_ h1
    intro j u hu
    rcases Nat.eq_zero_or_pos n with h0 | h0
    · subst h0
      obtain rfl : xs = [] := List.eq_nil_of_length_eq_zero (by simpa using hl)
      simp at hu
    · obtain ⟨g, off, e, _, hc⟩ := h4 h0
      injection e with e
      subst e
      rw [addr_add]
      exact hc j u hu

theorem Rd.of_own {w : World} {base : Nat} {e : TypeId} {size : Nat} {v : Value} {n : Nat} {xs : List Value} (h : w.ownsRow base e size v n xs) : Rd w size v n xs := by
  obtain ⟨h1, h2⟩ := h
  rcases h2 with ⟨rfl, rfl⟩ | ⟨g, cap, cur, rfl, hb, hh, hnc, hcm, hcs, htake⟩
  · exact ⟨h1, none, 0, rfl, Nat.le_refl _, Nat.zero_le _, fun h => absurd h (by omega)⟩
  · refine ⟨h1, _, cap, rfl, hnc, hcm, fun hn => ⟨g, 0, rfl, (Array.getElem?_eq_some_iff.1 hh).1, fun j u hu => ?_⟩⟩
    have hj : j < n * size := by have := (List.getElem?_eq_some_iff.1 hu).1; omega
    rw [← htake, List.getElem?_take, if_pos hj] at hu
    simp only [World.cell?, hh]
    simpa using hu

/-- 'append(x[:0:0], y...)': a new slice that reads as y. -/
theorem run_append_new {P : Program} (w : World) (tx ty : TypeId) {t e : TypeId} {size bytes : Nat} (rt : RowTy P t e size bytes) (hsz : 0 < size) (A : Option Addr) (x : Value) (n : Nat) (xs : List Value) (hsrc : Src P size tx x n xs w)
    (h63 : n ≤ maxLen) (hby : n * bytes ≤ 140737488355328) :
    ∃ v' w', (Builtin.append_ #[t, tx] ty #[.slice A 0 0, x]).run P w = .ok v' w' ∧ Rd w' size v' n xs ∧ Below w.heap.size w w' ∧
      (0 < n → w'.ownsRow w.heap.size e size v' n xs) ∧ (n = 0 → v' = .slice A 0 0 ∧ w' = w) := by
  obtain ⟨i, z, hi, hz, rfl, rfl, hzs⟩ := rt.info
  have hxl := hsrc.newsLen
  by_cases hn : n = 0
  · subst hn
    obtain rfl : xs = [] := List.eq_nil_of_length_eq_zero (by simpa using hxl)
    have hc : (Builtin.firstCells i.size 0 x).run P w = .ok #[] w := hsrc.cells
    have hl0 : ∀ w' : World, (Builtin.lenOf x).run P w' = .ok 0 w' := hsrc.len
    refine ⟨.slice A 0 0, w, ?_, ⟨by simp, A, 0, rfl, Nat.le_refl _, Nat.zero_le _, fun h => absurd h (by omega)⟩, Below.refl _ _, fun h => absurd h (by omega), fun _ => ⟨rfl, rfl⟩⟩
    cases A with
    | none => rcases hsrc.kind with ⟨e', hk⟩ | hk <;> simp [Builtin.append_, run_underlying rt.slice, run_underlying hk, sizeOf, typeInfo, hi, hl0, hc]
    | some a => rcases hsrc.kind with ⟨e', hk⟩ | hk <;> simp [Builtin.append_, run_underlying rt.slice, run_underlying hk, sizeOf, typeInfo, hi, hl0, hc, storeCells]
  · have hold : (Builtin.firstCells i.size 0 (.slice A 0 0)).run P w.drew = .ok ([] : List Value).toArray w.drew := by
      cases A with
      | none => exact run_firstCells_none w.drew i.size 0 0 0
      | some a => exact run_firstCells_some w.drew i.size 0 a 0 0 [] (by simp) (by intro _ _ h'; simp at h')
    have hr := run_append_grow_src (P := P) w t tx ty e i z rt.slice hi hz A 0 0 [] hold x n xs hsrc (by omega) (by simp only [maxLen] at h63; simp; omega)
      (growslice_fits (by omega) (by simpa using hby))
    have hge := grownCap_ge w (0 + n) 0 e
    have hown : ∀ w0 : World, w0 = w.drew.alloc (.cells (([] ++ xs).toArray ++ Builtin.zeroCells z.cells (grownCap w (0 + n) 0 e - (0 + n))) e) → w0.ownsRow w.heap.size e i.size (.slice (some ⟨w.heap.size, 0, none⟩) (0 + n) (grownCap w (0 + n) 0 e)) n xs := by
      rintro w0 rfl
      refine ⟨hxl, .inr ⟨w.heap.size, grownCap w (0 + n) 0 e, _, by simp, Nat.le_refl _, heap_alloc_new w.drew _, by omega, grownCap_le_maxLen w _ 0 e (by simpa using h63), ?_, ?_⟩⟩
      · simp [Builtin.zeroCells, hxl, hzs]
        simp only [Nat.zero_add] at hge
        rw [← Nat.add_mul]; congr 1; omega
      · simp only [List.nil_append, Array.toList_append]
        exact List.take_left' hxl
    have ho := hown _ rfl
    exact ⟨_, _, hr, Rd.of_own ho, ((Below.refl _ _).drew).alloc (Nat.le_refl _) _, fun _ => ho, fun h => absurd h hn⟩

theorem wpList_append_new {P : Program} {w : World} {ops : Array Oper} {rest : List Oper} {o : Oper} {a : Act} {Q : Exit → Act → World → Prop} (hgd : o.guard = none) (d s : Operand) (t tx : TypeId)
    (ho : o.op = .call { callee := .builtin .append, args := #[d, s], argTypes := #[t, tx] }) {e : TypeId} {size bytes : Nat} (rt : RowTy P t e size bytes) (hsz : 0 < size) (A : Option Addr) (hd : a.eval d = .slice A 0 0)
    (x : Value) (hx : a.eval s = x) (n : Nat) (xs : List Value) (hsrc : Src P size tx x n xs w) (h63 : n ≤ maxLen) (hby : n * bytes ≤ 140737488355328)
    (h : ∀ v' w', Rd w' size v' n xs → Below w.heap.size w w' → (0 < n → w'.ownsRow w.heap.size e size v' n xs) → (n = 0 → v' = .slice A 0 0 ∧ w' = w) → wpList P ops Q rest (a.put o.dst v') w') : wpList P ops Q (o :: rest) a w := by
  refine wpList_plain hgd fun K hK => ?_
  obtain ⟨v', w', hrun, h2, h3, h4, h5⟩ := run_append_new (P := P) w tx o.type rt hsz A x n xs hsrc h63 hby
  unfold Oper.wp execOp
  simp only [ho, resolve, invoke, builtin, Sem.run_bind, Sem.run_pure, Result.andThen_ok, List.map_toArray, List.map_cons, List.map_nil, hd, hx, hrun]
  exact hK _ _ (h v' w' h2 h3 h4 h5)

/-- cur with l laid over it from off on. -/
def lay {α : Type} (cur : List α) (off : Nat) (l : List α) : List α := cur.take off ++ (l ++ cur.drop (off + l.length))
/-- Block g has cap cells, of which the first are the bytes b. -/
def Rw (w : World) (g : Nat) (t : TypeId) (cap : Nat) (b : List UInt8) : Prop := ∃ cur : List Value, Bk w g t cur.toArray ∧ cur.length = cap ∧ cur.take b.length = bv b
theorem Rw.lt {w : World} {g cap : Nat} {t : TypeId} {b : List UInt8} (h : Rw w g t cap b) : g < w.heap.size := by obtain ⟨_, h, _⟩ := h; exact h.lt
theorem Rw.le {w : World} {g cap : Nat} {t : TypeId} {b : List UInt8} (h : Rw w g t cap b) : b.length ≤ cap := by
  obtain ⟨cur, _, h2, h3⟩ := h
  have := congrArg List.length h3
  simp [bv_length] at this
  omega
theorem Rw.cell {w : World} {g cap : Nat} {t : TypeId} {b : List UInt8} (h : Rw w g t cap b) {j : Nat} (hj : j < b.length) : w.cell? ⟨g, j, none⟩ = some (.int .u8 (b.getD j 0).toNat) := by
  obtain ⟨cur, h1, h2, h3⟩ := h
  rw [h1.cell]
  have h4 : (cur.take b.length)[j]? = (bv b)[j]? := by rw [h3]
  rw [List.getElem?_take, if_pos hj] at h4
  simp only [List.getElem?_toArray, h4, bv]
  simp [List.getD, List.getElem?_eq_getElem hj]
theorem Rw.free {w : World} {g cap : Nat} {t : TypeId} {b : List UInt8} (h : Rw w g t cap b) (j : Nat) : w.frozen? ⟨g, j, none⟩ = false := by obtain ⟨_, h, _⟩ := h; exact h.free j
theorem Rw.of {w : World} {g : Nat} {t : TypeId} {b : List UInt8} (h : Bk w g t (bv b).toArray) : Rw w g t b.length b := ⟨bv b, h, bv_length b, by rw [List.take_of_length_le (by rw [bv_length]; exact Nat.le_refl _)]⟩
theorem Rw.whole {w : World} {g cap : Nat} {t : TypeId} {b : List UInt8} (h : Rw w g t cap b) (hc : cap = b.length) : Bk w g t (bv b).toArray := by
  obtain ⟨cur, h1, h2, h3⟩ := h
  rw [List.take_of_length_le (by omega)] at h3
  rw [← h3]; exact h1
theorem Rw.kept {w w' : World} {g cap : Nat} {t : TypeId} {b : List UInt8} (h : Rw w g t cap b) (hb : Below w.heap.size w w') : Rw w' g t cap b := by
  obtain ⟨cur, h1, h2⟩ := h; exact ⟨cur, h1.kept hb, h2⟩
theorem Rw.but {w w' : World} {g g' cap : Nat} {t : TypeId} {b : List UInt8} (h : Rw w g t cap b) (hb : But g' w w') (hne : g ≠ g') : Rw w' g t cap b := by
  obtain ⟨cur, h1, h2⟩ := h; exact ⟨cur, hb.bk h1 hne, h2⟩
theorem Rw.ne {w : World} {g g' cap : Nat} {t t' : TypeId} {b : List UInt8} {cs : Array Value} (h : Rw w g t cap b) (h' : Bk w g' t' cs) (hne : t' ≠ t) : g' ≠ g := by
  obtain ⟨cur, h1, _⟩ := h; exact h'.ne h1 hne
theorem Rw.set {w : World} {g cap : Nat} {t : TypeId} {b : List UInt8} (h : Rw w g t cap b) (i : Nat) (c : UInt8) : Rw (w.setCell ⟨g, i, none⟩ (.int .u8 c.toNat)) g t cap (b.set i c) := by
  obtain ⟨cur, h1, h2, h3⟩ := h
  refine ⟨cur.set i (.int .u8 c.toNat), by simpa using h1.set i (.int .u8 c.toNat), by simpa using h2, ?_⟩
  rw [List.length_set, List.take_set, h3]
  simp [bv]
theorem OwnB.rw {e : TypeId} {base : Nat} {w : World} {v : Value} {l : List UInt8} (h : OwnB e base w v l) (h0 : 0 < l.length) : ∃ g cap, v = .slice (some ⟨g, 0, none⟩) l.length cap ∧ base ≤ g ∧ cap ≤ maxLen ∧ Rw w g e cap l := by
  rcases h.2 with ⟨_, h0'⟩ | ⟨g, cap, cur, rfl, hb, hh, hnc, hcm, hcs, htake⟩
  · omega
  · exact ⟨g, cap, rfl, hb, hcm, cur.toList, by simpa [Bk] using hh, by simpa using hcs, by simpa using htake⟩

/-- 'b[lo:hi]' of a block that begins with l. -/
theorem Rw.part {w : World} {g cap : Nat} {l : List UInt8} {t : TypeId} (h : Rw w g t cap l) (lo n c : Nat) (hlo : lo + n ≤ l.length) (hn : n ≤ c) (hm : c ≤ maxLen) : RdB w (.slice (some ⟨g, lo, none⟩) n c) ((l.drop lo).take n) := by
  have hl : ((l.drop lo).take n).length = n := by simp; omega
  refine .inr ⟨g, lo, c, by rw [hl], h.lt, by rw [hl]; exact hn, hm, fun j hj => ?_⟩
  rw [hl] at hj
  rw [h.cell (by omega)]
  simp [List.getD, List.getElem?_take, hj]

end Go.Proofs.YtpcpaoeajcjoiaaGreatDoor.Kit
