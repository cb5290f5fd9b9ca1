/- Texts joined, what is not reached left out. -/
import Derived.Test.YtpcpaoeajcjoiaaGreatDoorQKitR
import Derived.Test.YtpcpaoeajcjoiaaGreatDoorQKitOpen
import Derived.Deep.Slices
import Derived.Deep.Fields
/- Rows of elements of several cells: appended to; slices of structs that come in. Of no program. -/
namespace Go.Proofs.YtpcpaoeajcjoiaaGreatDoor.Kit
open Go.RowKit Go.ChangeShapes Go.WideShapes Go.Deep
set_option linter.unusedVariables false
set_option linter.unusedSimpArgs false

/-- 'append(v, x..)' onto a row of the call's own. -/
theorem run_appendRB {P : Program} (w : World) (tx ty : TypeId) {t e : TypeId} {size bytes : Nat} (rt : RowTy P t e size bytes) (hsz : 0 < size) (base : Nat) (v : Value) (n : Nat) (xs : List Value) (hown : w.ownsRow base e size v n xs)
    (x : Value) (m : Nat) (news : List Value) (hsrc : Src P size tx x m news w) (hlen : (n + m) * bytes ≤ 140737488355328) (h63 : n + m ≤ maxLen) (hbase : base ≤ w.heap.size) :
    ∃ v' w', (Builtin.append_ #[t, tx] ty #[v, x]).run P w = .ok v' w' ∧ w'.ownsRow base e size v' (n + m) (xs ++ news) ∧ Below base w w' ∧ w.grownBy w' v.ownBlock ∧ ∀ k, v'.ownBlock = some k → v.ownBlock = some k ∨ w.heap.size ≤ k := by
  obtain ⟨i, z, hi, hz, rfl, rfl, hzs⟩ := rt.info
  have hnl := hsrc.newsLen
  have hxl := hown.1
  rcases hown.2 with ⟨rfl, h0⟩ | ⟨g, cap, cur, rfl, hbg, hg, hnc, hcm, hcs, htake⟩
  · subst h0
    obtain rfl : xs = [] := List.eq_nil_of_length_eq_zero (by simpa using hxl)
    obtain ⟨v', w', hr, h2, h3, h4, h5⟩ := run_append_new (P := P) w tx ty rt hsz none x m news hsrc (by omega) (by simpa using hlen)
    refine ⟨v', w', hr, ?_, h3.mono hbase, ⟨h3.os, h3.tape, h3.output, h3.size, fun i hi _ => h3.block i hi⟩, fun k hk => ?_⟩
    rotate_left
    · by_cases hm : 0 < m
      · rcases (h4 hm).2 with ⟨_, h0⟩ | ⟨g, cap, cur, e1, hb, rest⟩
        · omega
        · rw [e1] at hk
          simp [Value.ownBlock] at hk
          exact .inr (by omega)
      · obtain ⟨e1, _⟩ := h5 (by omega)
        rw [e1] at hk
        simp [Value.ownBlock] at hk
    by_cases hm : 0 < m
    · have ho := h4 hm
      rw [Nat.zero_add, List.nil_append]
      refine ⟨ho.1, ?_⟩
      rcases ho.2 with ⟨_, h0⟩ | ⟨g, cap, cur, e1, hb, rest⟩
      · omega
      · exact .inr ⟨g, cap, cur, e1, Nat.le_trans hbase hb, rest⟩
    · obtain ⟨rfl, rfl⟩ := h5 (by omega)
      have : m = 0 := by omega
      subst this
      obtain rfl : news = [] := List.eq_nil_of_length_eq_zero (by simpa using hnl)
      exact World.ownsRow_nil w' base e i.size
  · by_cases hroom : n + m ≤ cap
    · have hmul : (n + m) * i.size ≤ cap * i.size := Nat.mul_le_mul_right _ hroom
      rw [Nat.add_mul] at hmul
      have hst := run_storeCells_at P g (n * i.size) e news 0 cur w hg (by omega) hsrc.one
      simp only [Nat.add_zero] at hst
      have hc := hsrc.cells
      have hr : (Builtin.append_ #[t, tx] ty #[.slice (some ⟨g, 0, none⟩) n cap, x]).run P w =
          .ok (.slice (some ⟨g, 0, none⟩) (n + m) cap) (w.setRow g (cur.toList.take (n * i.size) ++ news ++ cur.toList.drop (n * i.size + news.length)).toArray) := by
        rcases hsrc.kind with ⟨e', hk⟩ | hk <;>
          simp [Builtin.append_, run_underlying rt.slice, run_underlying hk, sizeOf, typeInfo, hi, hsrc.len, hroom, hc, Addr.add_lit, hst]
      refine ⟨_, _, hr, ⟨by simp [hxl, hnl, Nat.add_mul], .inr ⟨g, cap, _, by simp, hbg, setRow_heap w g cur _ e _ hg, hroom, hcm, ?_, ?_⟩⟩, ?_, ⟨rfl, rfl, rfl, by simp, fun k _ hk => setRow_other w g k _ (fun e => hk (by simp [Value.ownBlock, e]))⟩, fun k hk => .inl (by simpa [Value.ownBlock] using hk)⟩
      · simp; omega
      · rw [htake]
        simp only [List.toList_toArray]
        exact List.take_left' (by simp [hxl, hnl, Nat.add_mul])
      · exact ⟨rfl, rfl, rfl, by simp, fun k hk => setRow_other w g k _ (by omega)⟩
    · have holds : ∀ j u, xs[j]? = some u → w.cell? ((⟨g, 0, none⟩ : Addr).add j) = some u := by
        intro j u hu
        obtain ⟨_, A, c, e1, _, _, h4⟩ := Rd.of_own hown
        have hj := (List.getElem?_eq_some_iff.1 hu).1
        obtain ⟨g', off, e2, _, hc⟩ := h4 (by rcases Nat.eq_zero_or_pos n with h | h; · subst h; simp at hxl; simp [hxl] at hj
                                              · exact h)
        injection e1 with e1
        rw [← e1] at e2
        injection e2 with e2
        injection e2 with e2 e3
        subst e2 e3
        rw [addr_add]
        exact hc j u hu
      have hold := run_firstCells_some (P := P) w.drew i.size n ⟨g, 0, none⟩ n cap xs (by omega) (by simpa using holds)
      have hr := run_append_grow_src (P := P) w t tx ty e i z rt.slice hi hz (some ⟨g, 0, none⟩) n cap xs hold x m news hsrc (by omega) (by simp only [maxLen] at h63; omega)
        (growslice_fits (by omega) (by omega))
      have hge := grownCap_ge w (n + m) cap e
      refine ⟨_, _, hr, ⟨by simp [hxl, hnl, Nat.add_mul], .inr ⟨w.heap.size, _, _, by simp, hbase, heap_alloc_new w.drew _, hge, grownCap_le_maxLen w _ cap e h63, ?_, ?_⟩⟩,
        ((Below.refl _ _).drew).alloc hbase _, ⟨rfl, rfl, rfl, by simp, fun k hk _ => Below.heap_alloc w.drew _ k hk⟩, fun k hk => .inr (by simp [Value.ownBlock] at hk; omega)⟩
      · simp [Builtin.zeroCells, hxl, hnl, hzs]
        rw [← Nat.add_mul, ← Nat.add_mul]; congr 1; omega
      · simp only [Array.toList_append]
        exact List.take_left' (by simp [hxl, hnl, Nat.add_mul])

theorem run_appendR {P : Program} (w : World) (tx ty : TypeId) {t e : TypeId} {size bytes : Nat} (rt : RowTy P t e size bytes) (hsz : 0 < size) (base : Nat) (v : Value) (n : Nat) (xs : List Value) (hown : w.ownsRow base e size v n xs)
    (x : Value) (m : Nat) (news : List Value) (hsrc : Src P size tx x m news w) (hlen : (n + m) * bytes ≤ 140737488355328) (h63 : n + m ≤ maxLen) (hbase : base ≤ w.heap.size) :
    ∃ v' w', (Builtin.append_ #[t, tx] ty #[v, x]).run P w = .ok v' w' ∧ w'.ownsRow base e size v' (n + m) (xs ++ news) ∧ Below base w w' ∧ w.grownBy w' v.ownBlock := by
  obtain ⟨v', w', h1, h2, h3, h4, _⟩ := run_appendRB (P := P) w tx ty rt hsz base v n xs hown x m news hsrc hlen h63 hbase
  exact ⟨v', w', h1, h2, h3, h4⟩
/-- The same at the operation, saying where the new row lies. -/
theorem wpList_appendRB {P : Program} {w : World} {ops : Array Oper} {rest : List Oper} {o : Oper} {a : Act} {Q : Exit → Act → World → Prop} (hgd : o.guard = none) (s x : Operand) (t tx : TypeId)
    (ho : o.op = .call { callee := .builtin .append, args := #[s, x], argTypes := #[t, tx] }) {e : TypeId} {size bytes : Nat} (rt : RowTy P t e size bytes) (hsz : 0 < size) (base : Nat) (v : Value) (hs : a.eval s = v) (n : Nat) (xs : List Value)
    (hown : w.ownsRow base e size v n xs) (vx : Value) (hx : a.eval x = vx) (m : Nat) (news : List Value) (hsrc : Src P size tx vx m news w) (hlen : (n + m) * bytes ≤ 140737488355328) (h63 : n + m ≤ maxLen) (hbase : base ≤ w.heap.size)
    (h : ∀ v' w', w'.ownsRow base e size v' (n + m) (xs ++ news) → Below base w w' → w.grownBy w' v.ownBlock → (∀ k, v'.ownBlock = some k → v.ownBlock = some k ∨ w.heap.size ≤ k) → wpList P ops Q rest (a.put o.dst v') w') : wpList P ops Q (o :: rest) a w := by
  refine wpList_plain hgd fun K hK => ?_
  obtain ⟨v', w', hr, h2, h3, h4, h5⟩ := run_appendRB (P := P) w tx o.type rt hsz base v n xs hown vx m news hsrc hlen h63 hbase
  unfold Oper.wp execOp
  simp only [ho, resolve, invoke, builtin, Sem.run_bind, Sem.run_pure, Result.andThen_ok, List.map_toArray, List.map_cons, List.map_nil, hs, hx, hr]
  exact hK _ _ (h v' w' h2 h3 h4 h5)

theorem wp_appendR {P : Program} {w : World} {o : Oper} {a : Act} {K : Act → World → Prop} {Q : Exit → Act → World → Prop} (s x : Operand) (t tx : TypeId)
    (ho : o.op = .call { callee := .builtin .append, args := #[s, x], argTypes := #[t, tx] }) {e : TypeId} {size bytes : Nat} (rt : RowTy P t e size bytes) (hsz : 0 < size) (base : Nat) (v : Value) (hs : a.eval s = v) (n : Nat) (xs : List Value)
    (hown : w.ownsRow base e size v n xs) (vx : Value) (hx : a.eval x = vx) (m : Nat) (news : List Value) (hsrc : Src P size tx vx m news w) (hlen : (n + m) * bytes ≤ 140737488355328) (h63 : n + m ≤ maxLen) (hbase : base ≤ w.heap.size)
    (h : ∀ v' w', w'.ownsRow base e size v' (n + m) (xs ++ news) → Below base w w' → w.grownBy w' v.ownBlock → K (a.put o.dst v') w') : Oper.wp P o a w K Q := by
  obtain ⟨v', w', hr, h2, h3, h4⟩ := run_appendR (P := P) w tx o.type rt hsz base v n xs hown vx m news hsrc hlen h63 hbase
  unfold Oper.wp execOp
  simp only [ho, resolve, invoke, builtin, Sem.run_bind, Sem.run_pure, Result.andThen_ok, List.map_toArray, List.map_cons, List.map_nil, hs, hx, hr]
  exact h v' w' h2 h3 h4
theorem step_appendR {P : Program} {w : World} {ops : Array Oper} {o : Oper} {a : Act} {K : Act → World → Prop} {Q : Exit → Act → World → Prop} {E : Prop} (hgd : o.guard = none) (s x : Operand) (t tx : TypeId)
    (ho : o.op = .call { callee := .builtin .append, args := #[s, x], argTypes := #[t, tx] }) {e : TypeId} {size bytes : Nat} (rt : RowTy P t e size bytes) (hsz : 0 < size) (base : Nat) (v : Value) (hs : a.eval s = v) (n : Nat) (xs : List Value)
    (hown : w.ownsRow base e size v n xs) (vx : Value) (hx : a.eval x = vx) (m : Nat) (news : List Value) (hsrc : Src P size tx vx m news w) (hlen : (n + m) * bytes ≤ 140737488355328) (h63 : n + m ≤ maxLen) (hbase : base ≤ w.heap.size)
    (h : ∀ v' w', w'.ownsRow base e size v' (n + m) (xs ++ news) → Below base w w' → w.grownBy w' v.ownBlock → K (a.put o.dst v') w') :
    if Region.wanted o (yielded ops a.tmps) = true then Oper.wp P o a w K Q else E := by
  have hw : Region.wanted o (yielded ops a.tmps) = true := by simp [Region.wanted, hgd]
  rw [if_pos hw]
  exact wp_appendR s x t tx ho rt hsz base v hs n xs hown vx hx m news hsrc hlen h63 hbase h

theorem own_kept {w w' : World} {base : Nat} {e : TypeId} {size : Nat} {v : Value} {n : Nat} {xs : List Value} (h : w.ownsRow base e size v n xs) (hb : Below w.heap.size w w') : w'.ownsRow base e size v n xs := by
  obtain ⟨h1, h2⟩ := h
  refine ⟨h1, ?_⟩
  rcases h2 with h2 | ⟨g, cap, cur, rfl, hb', hh, rest⟩
  · exact .inl h2
  · exact .inr ⟨g, cap, cur, rfl, hb', (hb.block g (Array.getElem?_eq_some_iff.1 hh).1).trans hh, rest⟩
theorem own_rebase {w : World} {base base' : Nat} {e : TypeId} {size : Nat} {v : Value} {n : Nat} {xs : List Value} (h : w.ownsRow base e size v n xs) (hb : base' ≤ base) : w.ownsRow base' e size v n xs := by
  obtain ⟨h1, h2⟩ := h
  refine ⟨h1, ?_⟩
  rcases h2 with h2 | ⟨g, cap, cur, rfl, hb', rest⟩
  · exact .inl h2
  · exact .inr ⟨g, cap, cur, rfl, Nat.le_trans hb hb', rest⟩
/-- A slice that was built just now out of one element. -/
theorem Rd.built {w : World} {g : Nat} {e : TypeId} {size : Nat} {cs : Array Value} (h : Bk w g e cs) (hs : cs.size = size) : Rd w size (.slice (some ⟨g, 0, none⟩) 1 1) 1 cs.toList := by
  refine ⟨by simp [hs], _, 1, rfl, Nat.le_refl _, by unfold maxLen; omega, fun _ => ⟨g, 0, rfl, h.lt, fun j u hu => ?_⟩⟩
  rw [h.cell]
  simpa using hu

/-- The cells of the j-th of many elements. -/
theorem flat_at {α : Type} (f : α → List Value) (k : Nat) (hf : ∀ x, (f x).length = k) (l : List α) (j i : Nat) (d : α) (hj : j < l.length) (hi : i < k) : (l.flatMap f)[j * k + i]? = (f (l.getD j d))[i]? := by
  induction l generalizing j with
  | nil => simp at hj
  | cons x t ih =>
    rw [List.flatMap_cons]
    cases j with
    | zero => rw [Nat.zero_mul, Nat.zero_add, List.getElem?_append_left (by rw [hf]; exact hi)]; rfl
    | succ j =>
      rw [show (j + 1) * k + i = j * k + i + k by rw [Nat.add_mul]; omega, List.getElem?_append_right (by rw [hf]; omega), hf, show j * k + i + k - k = j * k + i by omega, List.getD_cons_succ]
      exact ih j (by simpa using hj)
theorem flat_length {α : Type} (f : α → List Value) (k : Nat) (hf : ∀ x, (f x).length = k) (l : List α) : (l.flatMap f).length = l.length * k := by
  induction l with
  | nil => simp
  | cons x t ih => rw [List.flatMap_cons, List.length_append, hf, ih, List.length_cons, Nat.add_mul]; omega

end Go.Proofs.YtpcpaoeajcjoiaaGreatDoor.Kit
