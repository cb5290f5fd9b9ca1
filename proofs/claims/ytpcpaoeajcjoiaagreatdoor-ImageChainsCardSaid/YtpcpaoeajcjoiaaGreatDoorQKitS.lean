/- Texts joined, what is not reached left out. -/
import Derived.Test.YtpcpaoeajcjoiaaGreatDoorQKitR
import Derived.Test.YtpcpaoeajcjoiaaGreatDoorQKitOpen
import Derived.Deep.Slices
import Derived.Deep.Fields
/- Rows of elements of several cells: appended to; slices of structs that come in. Of no program. -/
namespace Go.Proofs.YtpcpaoeajcjoiaaGreatDoor.Kit
open Go.RowKit Go.ChangeShapes Go.WideShapes Go.Deep
set_option linter.unusedVariables false
set_option linter.unusedSimpArgs false

/-- 'append(v, x..)' onto a row of the call's own. -/
theorem run_appendRB {P : Program} (w : World) (tx ty : TypeId) {t e : TypeId} {size bytes : Nat} (rt : RowTy P t e size bytes) (hsz : 0 < size) (base : Nat) (v : Value) (n : Nat) (xs : List Value) (hown : w.ownsRow base e size v n xs)
    (x : Value) (m : Nat) (news : List Value) (hsrc : Src P size tx x m news w) (hlen : (n + m) * bytes ≤ 140737488355328) (h63 : n + m ≤ maxLen) (hbase : base ≤ w.heap.size) :
    ∃ v' w', (Builtin.append_ #[t, tx] ty #[v, x]).run P w = .ok v' w' ∧ w'.ownsRow base e size v' (n + m) (xs ++ news) ∧ Below base w w' ∧ w.grownBy w' v.ownBlock ∧ ∀ k, v'.ownBlock = some k → v.ownBlock = some k ∨ w.heap.size ≤ k := by
  obtain ⟨i, z, hi, hz, rfl, rfl, hzs⟩ := rt.info
  have hnl := hsrc.newsLen
  have hxl := hown.1
  rcases hown.2 with ⟨rfl, h0⟩ | ⟨g, cap, cur, rfl, hbg, hg, hnc, hcm, hcs, htake⟩
  · subst h0
    obtain rfl : xs = [] := List.eq_nil_of_length_eq_zero (by simpa using hxl)
    obtain ⟨v', w', hr, h2, h3, h4, h5⟩ := run_append_new (P := P) w tx ty rt hsz none x m news hsrc (by omega) (by simpa using hlen)
    refine ⟨v', w', hr, ?_, h3.mono hbase, ⟨h3.os, h3.tape, h3.output, h3.size, fun i hi _ => h3.block i hi⟩, fun k hk => ?_⟩
    rotate_left
    · by_cases hm : 0 < m
      · rcases (h4 hm).2 with ⟨_, h0⟩ | ⟨g, cap, cur, e1, hb, rest⟩
        · omega
        · rw [e1] at hk
          simp [Value.ownBlock] at hk
          exact .inr (by omega)
      · obtain ⟨e1, _⟩ := h5 (by omega)
        rw [e1] at hk
        simp [Value.ownBlock] at hk
    by_cases hm : 0 < m
    · have ho := h4 hm
      rw [Nat.zero_add, List.nil_append]
      refine ⟨ho.1, ?_⟩
      rcases ho.2 with ⟨_, h0⟩ | ⟨g, cap, cur, e1, hb, rest⟩
      · omega
      · exact .inr ⟨g, cap, cur, e1, Nat.le_trans hbase hb, rest⟩
    · obtain ⟨rfl, rfl⟩ := h5 (by omega)
      have : m = 0 := by omega
      subst this
      obtain rfl : news = [] := List.eq_nil_of_length_eq_zero (by simpa using hnl)
      exact World.ownsRow_nil w' base e i.size
  · by_cases hroom : n + m ≤ cap
    · have hmul : (n + m) * i.size ≤ cap * i.size := Nat.mul_le_mul_right _ hroom
      rw [Nat.add_mul] at hmul
      have hst := run_storeCells_at P g (n * i.size) e news 0 cur w hg (by omega) hsrc.one
      simp only [Nat.add_zero] at hst
      have hc := hsrc.cells
      have hr : (Builtin.append_ #[t, tx] ty #[.slice (some ⟨g, 0, none⟩) n cap, x]).run P w =
          .ok (.slice (some ⟨g, 0, none⟩) (n + m) cap) (w.setRow g (cur.toList.take (n * i.size) ++ news ++ cur.toList.drop (n * i.size + news.length)).toArray) := by
        rcases hsrc.kind with ⟨e', hk⟩ | hk <;>
          simp [Builtin.append_, run_underlying rt.slice, run_underlying hk, sizeOf, typeInfo, hi, hsrc.len, hroom, hc, Addr.add_lit, hst]
      refine ⟨_, _, hr, ⟨by simp [hxl, hnl, Nat.add_mul], .inr ⟨g, cap, _, by simp, hbg, setRow_heap w g cur _ e _ hg, hroom, hcm, ?_, ?_⟩⟩, ?_, ⟨rfl, rfl, rfl, by simp, fun k _ hk => setRow_other w g k _ (fun e => hk (by simp [Value.ownBlock, e]))⟩, fun k hk => .inl (by simpa [Value.ownBlock] using hk)⟩
      · simp; omega
      · rw [htake]
        simp only [List.toList_toArray]
        exact List.take_left' (by simp [hxl, hnl, Nat.add_mul])
      · exact ⟨rfl, rfl, rfl, by simp, fun k hk => setRow_other w g k _ (by omega)⟩
    · have holds : ∀ j u, xs[j]? = some u → w.cell? ((⟨g, 0, none⟩ : Addr).add j) = some u := by
        intro j u hu
        obtain ⟨_, A, c, e1, _, _, h4⟩ := Rd.of_own hown
        have hj := (List.getElem?_eq_some_iff.1 hu).1
        obtain ⟨g', off, e2, _, hc⟩ := h4 (by rcases Nat.eq_zero_or_pos n with h | h; · subst h; simp at hxl; simp [hxl] at hj
                                              · exact h)
        injection e1 with e1
        rw [← e1] at e2
        injection e2 with e2
        injection e2 with e2 e3
        subst e2 e3
        rw [addr_add]
        exact hc j u hu
      have hold := run_firstCells_some (P := P) w.drew i.size n ⟨g, 0, none⟩ n cap xs (by omega) (by simpa using holds)
      have hr := run_append_grow_src (P := P) w t tx ty e i z rt.slice hi hz (some ⟨g, 0, none⟩) n cap xs hold x m news hsrc (by omega) (by simp only [maxLen] at h63; omega)
        (growslice_fits (by omega) (by omega))
      have hge := grownCap_ge w (n + m) cap e
      refine ⟨_, _, hr, ⟨by simp [hxl, hnl, Nat.add_mul], .inr ⟨w.heap.size, _, _, by simp, hbase, heap_alloc_new w.drew _, hge, grownCap_le_maxLen w _ cap e h63, ?_, ?_⟩⟩,
        ((Below.refl _ _).drew).alloc hbase _, ⟨rfl, rfl, rfl, by simp, fun k hk _ => Below.heap_alloc w.drew _ k hk⟩, fun k hk => .inr (by simp [Value.ownBlock] at hk; omega)⟩
      · simp [Builtin.zeroCells, hxl, hnl, hzs]
        rw [← Nat.add_mul, ← Nat.add_mul]; congr 1; omega
      · simp only [Array.toList_append]
        exact List.take_left' (by simp [hxl, hnl, Nat.add_mul])

theorem run_appendR {P : Program} (w : World) (tx ty : TypeId) {t e : TypeId} {size bytes : Nat} (rt : RowTy P t e size bytes) (hsz : 0 < size) (base : Nat) (v : Value) (n : Nat) (xs : List Value) (hown : w.ownsRow base e size v n xs)
    (x : Value) (m : Nat) (news : List Value) (hsrc : Src P size tx x m news w) (hlen : (n + m) * bytes ≤ 140737488355328) (h63 : n + m ≤ maxLen) (hbase : base ≤ w.heap.size) :
    ∃ v' w', (Builtin.append_ #[t, tx] ty #[v, x]).run P w = .ok v' w' ∧ w'.ownsRow base e size v' (n + m) (xs ++ news) ∧ Below base w w' ∧ w.grownBy w' v.ownBlock := by
  obtain ⟨v', w', h1, h2, h3, h4, _⟩ := run_appendRB (P := P) w tx ty rt hsz base v n xs hown x m news hsrc hlen h63 hbase
  exact ⟨v', w', h1, h2, h3, h4⟩
/-- The same at the operation, saying where the new row lies. -/
theorem wpList_appendRB {P : Program} {w : World} {ops : Array Oper} {rest : List Oper} {o : Oper} {a : Act} {Q : Exit → Act → World → Prop} (hgd : o.guard = none) (s x : Operand) (t tx : TypeId)
    (ho : o.op = .call { callee := .builtin .append, args := #[s, x], argTypes := #[t, tx] }) {e : TypeId} {size bytes : Nat} (rt : RowTy P t e size bytes) (hsz : 0 < size) (base : Nat) (v : Value) (hs : a.eval s = v) (n : Nat) (xs : List Value)
    (hown : w.ownsRow base e size v n xs) (vx : Value) (hx : a.eval x = vx) (m : Nat) (news : List Value) (hsrc : Src P size tx vx m news w) (hlen : (n + m) * bytes ≤ 140737488355328) (h63 : n + m ≤ maxLen) (hbase : base ≤ w.heap.size)
    (h : ∀ v' w', w'.ownsRow base e size v' (n + m) (xs ++ news) → Below base w w' → w.grownBy w' v.ownBlock → (∀ k, v'.ownBlock = some k → v.ownBlock = some k ∨ w.heap.size ≤ k) → wpList P ops Q rest (a.put o.dst v') w') : wpList P ops Q (o :: rest) a w := by
  refine wpList_plain hgd fun K hK => ?_
  obtain ⟨v', w', hr, h2, h3, h4, h5⟩ := run_appendRB (P := P) w tx o.type rt hsz base v n xs hown vx m news hsrc hlen h63 hbase
  unfold Oper.wp execOp
  simp only [ho, resolve, invoke, builtin, Sem.run_bind, Sem.run_pure, Result.andThen_ok, List.map_toArray, List.map_cons, List.map_nil, hs, hx, hr]
  exact hK _ _ (h v' w' h2 h3 h4 h5)

theorem wp_appendR {P : Program} {w : World} {o : Oper} {a : Act} {K : Act → World → Prop} {Q : Exit → Act → World → Prop} (s x : Operand) (t tx : TypeId)
    (ho : o.op = .call { callee := .builtin .append, args := #[s, x], argTypes := #[t, tx] }) {e : TypeId} {size bytes : Nat} (rt : RowTy P t e size bytes) (hsz : 0 < size) (base : Nat) (v : Value) (hs : a.eval s = v) (n : Nat) (xs : List Value)
    (hown : w.ownsRow base e size v n xs) (vx : Value) (hx : a.eval x = vx) (m : Nat) (news : List Value) (hsrc : Src P size tx vx m news w) (hlen : (n + m) * bytes ≤ 140737488355328) (h63 : n + m ≤ maxLen) (hbase : base ≤ w.heap.size)
    (h : ∀ v' w', w'.ownsRow base e size v' (n + m) (xs ++ news) → Below base w w' → w.grownBy w' v.ownBlock → K (a.put o.dst v') w') : Oper.wp P o a w K Q := by
  obtain ⟨v', w', hr, h2, h3, h4⟩ := run_appendR (P := P) w tx o.type rt hsz base v n xs hown vx m news hsrc hlen h63 hbase
  unfold Oper.wp execOp
  simp only [ho, resolve, invoke, builtin, Sem.run_bind, Sem.run_pure, Result.andThen_ok, List.map_toArray, List.map_cons, List.map_nil, hs, hx, hr]
  exact h v' w' h2 h3 h4
theorem wpList_appendR {P : Program} {w : World} {ops : Array Oper} {rest : List Oper} {o : Oper} {a : Act} {Q : Exit → Act → World → Prop} (hgd : o.guard = none) (s x : Operand) (t tx : TypeId)
    (ho : o.op = .call { callee := .builtin .append, args := #[s, x], argTypes := #[t, tx] }) {e : TypeId} {size bytes : Nat} (rt : RowTy P t e size bytes) (hsz : 0 < size) (base : Nat) (v : Value) (hs : a.eval s = v) (n : Nat) (xs : List Value)
    (hown : w.ownsRow base e size v n xs) (vx : Value) (hx : a.eval x = vx) (m : Nat) (news : List Value) (hsrc : Src P size tx vx m news w) (hlen : (n + m) * bytes ≤ 140737488355328) (h63 : n + m ≤ maxLen) (hbase : base ≤ w.heap.size)
    (h : ∀ v' w', w'.ownsRow base e size v' (n + m) (xs ++ news) → Below base w w' → w.grownBy w' v.ownBlock → wpList P ops Q rest (a.put o.dst v') w') : wpList P ops Q (o :: rest) a w :=
  wpList_plain hgd fun K hK => wp_appendR s x t tx ho rt hsz base v hs n xs hown vx hx m news hsrc hlen h63 hbase fun v' w' h2 h3 h4 => hK _ _ (h v' w' h2 h3 h4)
theorem step_appendR {P : Program} {w : World} {ops : Array Oper} {o : Oper} {a : Act} {K : Act → World → Prop} {Q : Exit → Act → World → Prop} {E : Prop} (hgd : o.guard = none) (s x : Operand) (t tx : TypeId)
    (ho : o.op = .call { callee := .builtin .append, args := #[s, x], argTypes := #[t, tx] }) {e : TypeId} {size bytes : Nat} (rt : RowTy P t e size bytes) (hsz : 0 < size) (base : Nat) (v : Value) (hs : a.eval s = v) (n : Nat) (xs : List Value)
    (hown : w.ownsRow base e size v n xs) (vx : Value) (hx : a.eval x = vx) (m : Nat) (news : List Value) (hsrc : Src P size tx vx m news w) (hlen : (n + m) * bytes ≤ 140737488355328) (h63 : n + m ≤ maxLen) (hbase : base ≤ w.heap.size)
    (h : ∀ v' w', w'.ownsRow base e size v' (n + m) (xs ++ news) → Below base w w' → w.grownBy w' v.ownBlock → K (a.put o.dst v') w') :
    if Region.wanted o (yielded ops a.tmps) = true then Oper.wp P o a w K Q else E := by
  have hw : Region.wanted o (yielded ops a.tmps) = true := by simp [Region.wanted, hgd]
  rw [if_pos hw]
  exact wp_appendR s x t tx ho rt hsz base v hs n xs hown vx hx m news hsrc hlen h63 hbase h

theorem own_kept {w w' : World} {base : Nat} {e : TypeId} {size : Nat} {v : Value} {n : Nat} {xs : List Value} (h : w.ownsRow base e size v n xs) (hb : Below w.heap.size w w') : w'.ownsRow base e size v n xs := by
  obtain ⟨h1, h2⟩ := h
  refine ⟨h1, ?_⟩
  rcases h2 with h2 | ⟨g, cap, cur, rfl, hb', hh, rest⟩
  · exact .inl h2
  · exact .inr ⟨g, cap, cur, rfl, hb', (hb.block g (Array.getElem?_eq_some_iff.1 hh).1).trans hh, rest⟩
theorem own_rebase {w : World} {base base' : Nat} {e : TypeId} {size : Nat} {v : Value} {n : Nat} {xs : List Value} (h : w.ownsRow base e size v n xs) (hb : base' ≤ base) : w.ownsRow base' e size v n xs := by
  obtain ⟨h1, h2⟩ := h
  refine ⟨h1, ?_⟩
  rcases h2 with h2 | ⟨g, cap, cur, rfl, hb', rest⟩
  · exact .inl h2
  · exact .inr ⟨g, cap, cur, rfl, Nat.le_trans hb hb', rest⟩
/-- A slice that was built just now out of one element. -/
theorem Rd.built {w : World} {g : Nat} {e : TypeId} {size : Nat} {cs : Array Value} (h : Bk w g e cs) (hs : cs.size = size) : Rd w size (.slice (some ⟨g, 0, none⟩) 1 1) 1 cs.toList := by
  refine ⟨by simp [hs], _, 1, rfl, Nat.le_refl _, by unfold maxLen; omega, fun _ => ⟨g, 0, rfl, h.lt, fun j u hu => ?_⟩⟩
  rw [h.cell]
  simpa using hu

/-- The cells of the j-th of many elements. -/
theorem flat_at {α : Type} (f : α → List Value) (k : Nat) (hf : ∀ x, (f x).length = k) (l : List α) (j i : Nat) (d : α) (hj : j < l.length) (hi : i < k) : (l.flatMap f)[j * k + i]? = (f (l.getD j d))[i]? := by
  induction l generalizing j with
  | nil => simp at hj
  | cons x t ih =>
    rw [List.flatMap_cons]
    cases j with
    | zero => rw [Nat.zero_mul, Nat.zero_add, List.getElem?_append_left (by rw [hf]; exact hi)]; rfl
    | succ j =>
      rw [show (j + 1) * k + i = j * k + i + k by rw [Nat.add_mul]; omega, List.getElem?_append_right (by rw [hf]; omega), hf, show j * k + i + k - k = j * k + i by omega, List.getD_cons_succ]
      exact ih j (by simpa using hj)
theorem flat_length {α : Type} (f : α → List Value) (k : Nat) (hf : ∀ x, (f x).length = k) (l : List α) : (l.flatMap f).length = l.length * k := by
  induction l with
  | nil => simp
  | cons x t ih => rw [List.flatMap_cons, List.length_append, hf, ih, List.length_cons, Nat.add_mul]; omega

/-- The cells of a struct whose fields are of one cell each. -/
theorem struct_fields {H : Type} {enc : TypeId × Value → H} {P : Program} {W : World} {base : Nat} {spare : Nat → Bool} {held : Bool} {e : TypeId} {fs : Array Field} (he : P.underlying e = some (.struct fs)) (hone : oneCellFields P fs = true) (hC : P.cellsOf e = fs.size)
    {n : Nat} {cs : List Value} {y : DataW H × List MemPlace} (h : DataW.trod enc P W base spare held n e cs = some y) (hl : cs.length = fs.size) :
    ∃ m, ∀ (j : Nat) (f : Field), fs[j]? = some f → ∃ (v : Value) (y' : DataW H × List MemPlace), cs[j]? = some v ∧ DataW.trod enc P W base spare held m f.type [v] = some y' := by
  obtain ⟨ys, n', hx, hy, hm, hyl, hf⟩ := DataW.trod_struct he h
  refine ⟨n', fun j f hj => ?_⟩
  obtain ⟨ho, hk⟩ := hone_of hone j f hj
  have hjl : j < fs.size := (Array.getElem?_eq_some_iff.1 hj).1
  have h1 := hf j f hj
  rw [ho, hk] at h1
  have hv : cs[j]? = some (cs[j]'(by omega)) := List.getElem?_eq_getElem (by omega)
  have hone' : (cs.drop j).take 1 = [cs[j]'(by omega)] := by
    rw [List.drop_eq_getElem_cons (by omega)]
    rfl
  rw [hone'] at h1
  have hys : ys[j]? = some (ys[j]'(by omega)) := List.getElem?_eq_getElem (by omega)
  exact ⟨_, _, hv, h1.trans hys⟩

/-- A slice of many-celled elements that comes in: it reads as a list of what its elements read as. -/
theorem open_rows {α : Type} (f : α → List Value) (k : Nat) (hk : 0 < k) (hf : ∀ x, (f x).length = k) (Q : α → Prop) {H : Type} {enc : TypeId × Value → H} {P : Program} {W : World} {b0 : Nat} {t e : TypeId}
    (ht : P.underlying t = some (.slice e)) (hC : P.cellsOf e = k) {spare : Nat → Bool} (hsp : ∀ n, spare n = true)
    (hel : ∀ n cs y, cs.length = k → DataW.trod enc P W 0 spare true n e cs = some y → ∃ x, cs = f x ∧ Q x)
    {v : Value} {d : DataW H} {p : List MemPlace} (hval : Value.okWide P W .any b0 t v) (h : DataW.Trod enc P W 0 spare true t v d p) :
    ∃ xs : List α, Rd W k v xs.length (xs.flatMap f) ∧ (∀ x ∈ xs, Q x) ∧ xs.length ≤ maxLen := by
  obtain ⟨a0, len, cap, rfl⟩ := okWide_slice ht hval
  obtain ⟨fuel, hfu⟩ := h
  rcases open_slice ht hfu with ⟨hcs, _⟩ | ⟨a, len', cap', m, n, D, Pl, hcs, _, hl, hm, hmm, _, hx⟩
  · simp [Value.cells] at hcs
    obtain ⟨rfl, rfl, rfl⟩ := hcs
    exact ⟨[], Rd.nil _ _, fun x hx => by simp at hx, Nat.zero_le _⟩
  · simp [Value.cells] at hcs
    obtain ⟨rfl, rfl, rfl⟩ := hcs
    rw [hsp, if_pos rfl] at hmm
    subst hmm
    rw [hC] at hx
    have hex : ∀ i, i < len → ∃ x, (∀ j u, (f x)[j]? = some u → W.cell? ((a.add (i * k)).add j) = some u) ∧ Q x := by
      intro i hi
      obtain ⟨cs', hc, ht'⟩ := hx i (by omega)
      obtain ⟨_, hcl, hat⟩ := World.cells?_some hc
      obtain ⟨x, rfl, hq⟩ := hel _ _ _ hcl ht'
      refine ⟨x, fun j u hu => ?_, hq⟩
      have hj : j < k := by have := (List.getElem?_eq_some_iff.1 hu).1; rw [hf] at this; exact this
      rw [hat j hj]
      exact hu
    have hall : ∀ n', n' ≤ len → ∃ xs : List α, xs.length = n' ∧ ∀ i x, xs[i]? = some x → (∀ j u, (f x)[j]? = some u → W.cell? ((a.add (i * k)).add j) = some u) ∧ Q x := by
      intro n'
      induction n' with
      | zero => exact fun _ => ⟨[], rfl, fun i x hx => by simp at hx⟩
      | succ n' ih =>
        intro hn'
        obtain ⟨xs, hxl, hxs⟩ := ih (by omega)
        obtain ⟨x, hx1, hx2⟩ := hex n' (by omega)
        refine ⟨xs ++ [x], by simp [hxl], fun i y hy => ?_⟩
        by_cases hi : i < n'
        · rw [List.getElem?_append_left (by omega)] at hy
          exact hxs i y hy
        · rw [List.getElem?_append_right (by omega)] at hy
          have hi' : i - xs.length = 0 := by
            have := (List.getElem?_eq_some_iff.1 hy).1
            simp at this; omega
          rw [hi'] at hy
          simp at hy
          subst hy
          obtain rfl : i = n' := by omega
          exact ⟨hx1, hx2⟩
    obtain ⟨xs, hxl, hxs⟩ := hall len (Nat.le_refl _)
    refine ⟨xs, ⟨flat_length f k hf xs, some a, _, by rw [hxl], by omega, hm, fun hn => ?_⟩, fun x hx => ?_, by rw [hxl]; omega⟩
    · obtain ⟨g, off, spot⟩ := a
      obtain ⟨x0, hx0⟩ : ∃ x0, xs[0]? = some x0 := ⟨xs[0], List.getElem?_eq_getElem hn⟩
      have h00 := (hxs 0 x0 hx0).1
      obtain ⟨u0, hu0⟩ : ∃ u0, (f x0)[0]? = some u0 := ⟨(f x0)[0]'(by rw [hf]; exact hk), List.getElem?_eq_getElem _⟩
      have c0 := h00 0 u0 hu0
      have hs : spot = none := by
        cases spot with
        | none => rfl
        | some s =>
          simp only [Nat.zero_mul, Addr.add, if_true, World.cell?] at c0
          split at c0 <;> simp at c0
      subst hs
      have hg : g < W.heap.size := by
        have := World.block_lt_of_cell? W _ c0
        simpa [addr_add] using this
      refine ⟨g, off, rfl, hg, fun j u hu => ?_⟩
      have hjl : j < xs.length * k := by have := (List.getElem?_eq_some_iff.1 hu).1; rw [flat_length f k hf] at this; exact this
      have hq : j / k < xs.length := (Nat.div_lt_iff_lt_mul hk).2 hjl
      have hr : j % k < k := Nat.mod_lt _ hk
      have ej : j = j / k * k + j % k := by rw [Nat.mul_comm]; exact (Nat.div_add_mod j k).symm
      obtain ⟨x, hxx⟩ : ∃ x, xs[j / k]? = some x := ⟨xs[j / k], List.getElem?_eq_getElem hq⟩
      have := (hxs _ x hxx).1 (j % k) u (by
        rw [ej, flat_at f k hf xs (j / k) (j % k) x hq hr] at hu
        rw [← hu]
        simp [List.getD, hxx])
      rw [addr_add, addr_add, Nat.add_assoc, ← ej] at this
      exact this
    · obtain ⟨i, hi, rfl⟩ := List.mem_iff_getElem.1 hx
      exact (hxs i _ (List.getElem?_eq_getElem hi)).2

end Go.Proofs.YtpcpaoeajcjoiaaGreatDoor.Kit
