/- Bytes in memory: slices of bytes of the call's own, appended to from whatever source. Of no program. -/
import Derived.WalkKit
import Derived.WalkLawsBesides
import Derived.WalkSpells
import Derived.Lib.Hide
import Derived.Lib.Strings
import Derived.Lib.ConvBytes
import Derived.Lib.AppendStr
import Derived.Deep.AppendSrc
import Derived.Lib.AppendZeros
import Derived.Lib.AppendZerosOnto
namespace Go.Proofs.YtfafdkbnmfpbmaaGreatDoor.Kit
open Go.RowKit
set_option linter.unusedVariables false
set_option linter.unusedSimpArgs false

/-- Bytes as cells. -/
def bv (l : List UInt8) : List Value := l.map fun c => Value.int .u8 c.toNat
theorem bv_length (l : List UInt8) : (bv l).length = l.length := by simp [bv]
theorem bv_append (a b : List UInt8) : bv (a ++ b) = bv a ++ bv b := by simp [bv]
theorem bv_one (l : List UInt8) : ∀ u ∈ bv l, u.oneCell' = true := by
  intro u hu; simp only [bv, List.mem_map] at hu; obtain ⟨_, _, rfl⟩ := hu; rfl

/-- What the walk must know of '[]byte' and its element type. -/
structure ByteTy (P : Program) (t e : TypeId) : Prop where
  slice : P.underlying t = some (.slice e)
  elem : P.underlying e = some (.int .u8)
  info : ∃ i, P.info? e = some i ∧ i.zero = some (.int .u8 0) ∧ i.size = 1 ∧ i.bytes = 1

/-- v is a slice of the call's own (a block from 'base' on) whose elements are the bytes l. -/
def OwnB (e : TypeId) (base : Nat) (w : World) (v : Value) (l : List UInt8) : Prop := w.ownsRow base e 1 v l.length (bv l)

theorem OwnB.nil (e : TypeId) (base : Nat) (w : World) : OwnB e base w (.slice none 0 0) [] := World.ownsRow_nil w base e 1
theorem OwnB.shape {e : TypeId} {base : Nat} {w : World} {v : Value} {l : List UInt8} (h : OwnB e base w v l) :
    (v = .slice none 0 0 ∧ l = []) ∨ ∃ g cap, v = .slice (some ⟨g, 0, none⟩) l.length cap ∧ base ≤ g ∧ g < w.heap.size ∧ l.length ≤ cap ∧ cap ≤ maxLen ∧
      (∀ j, j < l.length → w.cell? ⟨g, j, none⟩ = some (.int .u8 (l.getD j 0).toNat)) ∧ ∀ j, j < cap → w.frozen? ⟨g, j, none⟩ = false ∧ (w.cell? ⟨g, j, none⟩).isSome = true := by
  obtain ⟨h1, h2⟩ := h
  rcases h2 with ⟨rfl, hn⟩ | ⟨g, cap, cur, rfl, hb, hh, hnc, hcm, hcs, htake⟩
  · exact .inl ⟨rfl, List.eq_nil_of_length_eq_zero hn⟩
  · refine .inr ⟨g, cap, rfl, hb, (Array.getElem?_eq_some_iff.1 hh).1, hnc, hcm, fun j hj => ?_, fun j hj => ?_⟩
    · simp only [Nat.mul_one] at htake
      have h3 : (bv l)[j]? = some (.int .u8 (l.getD j 0).toNat) := by
        simp [bv, List.getD, List.getElem?_eq_getElem hj]
      rw [← htake, List.getElem?_take, if_pos hj] at h3
      simp only [World.cell?, hh]
      simpa using h3
    · simp only [Nat.mul_one] at hcs
      refine ⟨by simp [World.frozen?, hh], ?_⟩
      simp only [World.cell?, hh]
      simp [hcs, hj]
theorem OwnB.len {e : TypeId} {base : Nat} {w : World} {v : Value} {l : List UInt8} (h : OwnB e base w v l) {n : Nat} (hn : l.length = n) : ∃ a cap, v = .slice a n cap := by
  rcases h.shape with ⟨rfl, rfl⟩ | ⟨g, cap, rfl, _⟩
  · exact ⟨none, 0, by rw [← hn]; rfl⟩
  · exact ⟨_, cap, by rw [hn]⟩
theorem OwnB.alloc {e : TypeId} {base : Nat} {w : World} {v : Value} {l : List UInt8} (h : OwnB e base w v l) (o : Obj) : OwnB e base (w.alloc o) v l := World.ownsRow.alloc h o
/-- What lies below B lies there still. -/
theorem OwnB.below {e : TypeId} {base B : Nat} {w w' : World} {v : Value} {l : List UInt8} (h : OwnB e base w v l) (hb : Below B w w') (hB : ∀ g, v.ownBlock = some g → g < B) : OwnB e base w' v l := by
  obtain ⟨h1, h2⟩ := h
  refine ⟨h1, ?_⟩
  rcases h2 with h2 | ⟨g, cap, cur, rfl, hb', hh, rest⟩
  · exact .inl h2
  · exact .inr ⟨g, cap, cur, rfl, hb', by rw [hb.block g (hB g rfl)]; exact hh, rest⟩
/-- A world whose heap is as that of w. -/
theorem OwnB.kept {e : TypeId} {base : Nat} {w w' : World} {v : Value} {l : List UInt8} (h : OwnB e base w v l) (hb : Below w.heap.size w w') : OwnB e base w' v l :=
  h.below hb fun g hg => (h.lt g hg).2
theorem OwnB.rebase {e : TypeId} {base base' : Nat} {w : World} {v : Value} {l : List UInt8} (h : OwnB e base w v l) (hb : base' ≤ base) : OwnB e base' w v l := by
  obtain ⟨h1, h2⟩ := h
  refine ⟨h1, ?_⟩
  rcases h2 with h2 | ⟨g, cap, cur, rfl, hb', rest⟩
  · exact .inl h2
  · exact .inr ⟨g, cap, cur, rfl, Nat.le_trans hb hb', rest⟩

/-- A slice that was built just now is the call's own. -/
theorem OwnB.built (w : World) (e : TypeId) (arr : Array Value) (l : List UInt8) (h : arr.toList = bv l) (hm : l.length ≤ maxLen) {base : Nat} (hb : base ≤ w.heap.size) :
    OwnB e base (w.alloc (.cells arr e)) (.slice (some ⟨w.heap.size, 0, none⟩) l.length l.length) l := by
  have hs : arr.size = l.length := by rw [← Array.length_toList, h, bv_length]
  exact ⟨by simp [bv_length], .inr ⟨w.heap.size, l.length, arr, rfl, hb, heap_alloc_new w _, Nat.le_refl _, hm, by omega, by rw [h, Nat.mul_one, ← bv_length, List.take_length]⟩⟩

/-- v reads as the bytes l. -/
def RdB (w : World) (v : Value) (l : List UInt8) : Prop :=
  (∃ a c, v = .slice a 0 c ∧ l = []) ∨ ∃ g off cap, v = .slice (some ⟨g, off, none⟩) l.length cap ∧ g < w.heap.size ∧ l.length ≤ cap ∧ cap ≤ maxLen ∧ ∀ j, j < l.length → w.cell? ⟨g, off + j, none⟩ = some (.int .u8 (l.getD j 0).toNat)
theorem OwnB.rd {e : TypeId} {base : Nat} {w : World} {v : Value} {l : List UInt8} (h : OwnB e base w v l) : RdB w v l := by
  rcases h.shape with ⟨rfl, rfl⟩ | ⟨g, cap, rfl, _, hg, hlc, hcm, hc, _⟩
  · exact .inl ⟨none, 0, rfl, rfl⟩
  · exact .inr ⟨g, 0, cap, rfl, hg, hlc, hcm, by simpa using hc⟩
theorem RdB.below {w w' : World} {v : Value} {l : List UInt8} (h : RdB w v l) (hb : Below w.heap.size w w') : RdB w' v l := by
  rcases h with h | ⟨g, off, cap, rfl, hg, hlc, hcm, hc⟩
  · exact .inl h
  · exact .inr ⟨g, off, cap, rfl, Nat.lt_of_lt_of_le hg hb.size, hlc, hcm, fun j hj => by rw [hb.cell (p := ⟨g, off + j, none⟩) hg]; exact hc j hj⟩

theorem addr_add (g off j : Nat) : (⟨g, off, none⟩ : Addr).add j = ⟨g, off + j, none⟩ := by unfold Addr.add; split <;> simp_all

theorem cells_of_rd {w : World} {g off : Nat} {l : List UInt8} (hc : ∀ j, j < l.length → w.cell? ⟨g, off + j, none⟩ = some (.int .u8 (l.getD j 0).toNat)) :
    ∀ j u, (bv l)[j]? = some u → w.cell? ((⟨g, off, none⟩ : Addr).add j) = some u := by
  intro j u hu
  have hj : j < l.length := by simpa [bv_length] using (List.getElem?_eq_some_iff.1 hu).1
  rw [addr_add, hc j hj, ← hu]
  simp [bv, List.getD, List.getElem?_eq_getElem hj]

theorem src_of_rd {P : Program} {t e : TypeId} (ty : ByteTy P t e) {w : World} {v : Value} {l : List UInt8} (h : RdB w v l) : Src P 1 t v l.length (bv l) w := by
  rcases h with ⟨a, c, rfl, rfl⟩ | ⟨g, off, cap, rfl, hg, _, _, hc⟩
  · cases a with
    | none => exact Src.ofNil w ty.slice c
    | some a => exact Src.ofSlice w ty.slice a 0 c _ (by simp [bv]) (fun j u hu => by simp [bv] at hu) (by simp [bv])
  · exact Src.ofSlice w ty.slice _ _ _ _ (by simp [bv_length]) (cells_of_rd hc) (bv_one l)
theorem src_of_string {P : Program} {tx : TypeId} (hk : P.underlying tx = some .string) (w : World) (s : ByteArray) : Src P 1 tx (.string s) s.data.toList.length (bv s.data.toList) w := Src.ofString w hk s
/-- A slice that was built just now. -/
theorem src_of_built {P : Program} {t e : TypeId} (ty : ByteTy P t e) (w : World) (e' : TypeId) (arr : Array Value) (l : List UInt8) (c : Nat) (h : arr.toList = bv l) :
    Src P 1 t (.slice (some ⟨w.heap.size, 0, none⟩) l.length c) l.length (bv l) (w.alloc (.cells arr e')) := by
  refine Src.ofSlice _ ty.slice _ _ _ _ (by simp [bv_length]) ?_ (bv_one l)
  intro j u hu
  rw [addr_add, ← h] at *
  rw [World.cell?_alloc_at _ _ _ _ rfl]
  simpa using hu

/-- 'append(v, x)' onto a slice of the call's own. -/
theorem run_appendB {P : Program} (w : World) (tx ty : TypeId) {t e : TypeId} (bt : ByteTy P t e) (base : Nat) (v : Value) (l : List UInt8) (hown : OwnB e base w v l) (x : Value) (news : List UInt8)
    (hsrc : Src P 1 tx x news.length (bv news) w) (hlen : l.length + news.length ≤ 140737488355328) (hbase : base ≤ w.heap.size) :
    ∃ v' w', (Builtin.append_ #[t, tx] ty #[v, x]).run P w = .ok v' w' ∧ OwnB e base w' v' (l ++ news) ∧ Below base w w' ∧ w.grownBy w' v.ownBlock := by
  obtain ⟨i, hi, hz, hs1, hb1⟩ := bt.info
  have h63 : l.length + news.length ≤ maxLen := by unfold maxLen; omega
  rcases hown.2 with ⟨rfl, h0⟩ | ⟨g, cap, cur, rfl, hbg, hg, hnc, hcm, hcs, htake⟩
  · have hl : l = [] := List.eq_nil_of_length_eq_zero h0
    subst hl
    by_cases hn : news.length = 0
    · have hnn : news = [] := List.eq_nil_of_length_eq_zero hn
      subst hnn
      refine ⟨.slice none 0 0, w, ?_, World.ownsRow_nil w base e 1, Below.refl _ _, ⟨rfl, rfl, rfl, Nat.le_refl _, fun _ _ _ => rfl⟩⟩
      have hc : (Builtin.firstCells 1 0 x).run P w = .ok #[] w := hsrc.cells
      have hl0 : ∀ w' : World, (Builtin.lenOf x).run P w' = .ok 0 w' := hsrc.len
      rcases hsrc.kind with ⟨e', hk⟩ | hk <;>
        simp [Builtin.append_, run_underlying bt.slice, run_underlying hk, sizeOf, typeInfo, hi, hs1, hl0, hc]
    · have hr := run_append_grow_src (P := P) w t tx ty e i (.int .u8 0) bt.slice hi hz none 0 0 [] (run_firstCells_none w.drew _ 0 0 0) x news.length (bv news) (hs1 ▸ hsrc) (by omega) (by simp only [maxLen] at h63; simp at h63; omega)
        (by rw [hb1]; exact growslice_fits (by omega) (by simp at hlen ⊢; omega))
      refine ⟨_, _, hr, ⟨by simp [bv_length], .inr ⟨w.heap.size, grownCap w (0 + news.length) 0 e, _, by simp, hbase, heap_alloc_new w.drew _, by simpa using grownCap_ge w (0 + news.length) 0 e, grownCap_le_maxLen w _ 0 e (by simpa using h63), ?_, ?_⟩⟩,
        ((Below.refl _ _).drew).alloc (by simpa using hbase) _, ⟨rfl, rfl, rfl, by simp, fun k hk _ => Below.heap_alloc w.drew _ k hk⟩⟩
      · have hge := grownCap_ge w (0 + news.length) 0 e
        simp [bv_length, Builtin.zeroCells, Value.cells] at hge ⊢
        omega
      · simp [bv_length, List.take_left']
  · by_cases hroom : l.length + news.length ≤ cap
    · have hcs' : cur.size = cap := by simpa using hcs
      have hst := run_storeCells_at P g (l.length * 1) e (bv news) 0 cur w hg (by simp [bv_length]; omega) (bv_one news)
      simp only [Nat.add_zero, Nat.mul_one] at hst
      have hc := hsrc.cells
      have hr : (Builtin.append_ #[t, tx] ty #[.slice (some ⟨g, 0, none⟩) l.length cap, x]).run P w =
          .ok (.slice (some ⟨g, 0, none⟩) (l.length + news.length) cap) (w.setRow g (cur.toList.take l.length ++ bv news ++ cur.toList.drop (l.length + (bv news).length)).toArray) := by
        rcases hsrc.kind with ⟨e', hk⟩ | hk <;>
          simp [Builtin.append_, run_underlying bt.slice, run_underlying hk, sizeOf, typeInfo, hi, hs1, hsrc.len, hroom, hc, Addr.add_lit, hst]
      have htake' : cur.toList.take l.length = bv l := by simpa using htake
      refine ⟨_, _, hr, ⟨by simp [bv_length], .inr ⟨g, cap, _, by simp, hbg, setRow_heap w g cur _ e _ hg, by simpa using hroom, hcm, ?_, ?_⟩⟩, ?_, ⟨rfl, rfl, rfl, by simp, fun k _ hk => setRow_other w g k _ (fun e => hk (by simp [Value.ownBlock, e]))⟩⟩
      · simp [bv_length]; omega
      · rw [htake']
        rw [show ((bv l ++ bv news ++ List.drop (l.length + (bv news).length) cur.toList).toArray).toList = bv (l ++ news) ++ List.drop (l.length + (bv news).length) cur.toList by simp [bv_append]]
        exact List.take_left' (by simp [bv_length])
      · exact ⟨rfl, rfl, rfl, by simp, fun k hk => setRow_other w g k _ (by omega)⟩
    · have holds : ∀ j u, (bv l)[j]? = some u → w.cell? ((⟨g, 0, none⟩ : Addr).add j) = some u := hown.cells (g := g) rfl
      have hold := run_firstCells_some (P := P) w.drew 1 l.length ⟨g, 0, none⟩ l.length cap (bv l) (by simp [bv_length]) (by simpa using holds)
      have hr := run_append_grow_src (P := P) w t tx ty e i (.int .u8 0) bt.slice hi hz (some ⟨g, 0, none⟩) l.length cap (bv l) (hs1 ▸ hold) x news.length (bv news) (hs1 ▸ hsrc) (by omega) (by simp only [maxLen] at h63; omega)
        (by rw [hb1]; exact growslice_fits (by omega) (by omega))
      have hge := grownCap_ge w (l.length + news.length) cap e
      refine ⟨_, _, hr, ⟨by simp [bv_length], .inr ⟨w.heap.size, _, _, by simp, hbase, heap_alloc_new w.drew _, by simpa using hge, grownCap_le_maxLen w _ cap e h63, ?_, ?_⟩⟩,
        ((Below.refl _ _).drew).alloc (by simpa using hbase) _, ⟨rfl, rfl, rfl, by simp, fun k hk _ => Below.heap_alloc w.drew _ k hk⟩⟩
      · simp [bv_length, Builtin.zeroCells, Value.cells]
        omega
      · simp [bv_append, bv_length, List.take_append, List.take_of_length_le]

/-- The same at the operation, for the walk. -/
theorem wpList_appendB {P : Program} {w : World} {ops : Array Oper} {rest : List Oper} {o : Oper} {a : Act} {Q : Exit → Act → World → Prop} (hgd : o.guard = none) (s x : Operand) (t tx : TypeId)
    (ho : o.op = .call { callee := .builtin .append, args := #[s, x], argTypes := #[t, tx] }) {e : TypeId} (bt : ByteTy P t e) (base : Nat) (v : Value) (hs : a.eval s = v) (l : List UInt8) (hown : OwnB e base w v l)
    (vx : Value) (hx : a.eval x = vx) (news : List UInt8) (hsrc : Src P 1 tx vx news.length (bv news) w) (hlen : l.length + news.length ≤ 140737488355328) (hbase : base ≤ w.heap.size)
    (h : ∀ v' w', OwnB e base w' v' (l ++ news) → Below base w w' → w.grownBy w' v.ownBlock → wpList P ops Q rest (a.put o.dst v') w') : wpList P ops Q (o :: rest) a w := by
  refine wpList_plain hgd fun K hK => ?_
  obtain ⟨v', w', hr, h2, h3, h4⟩ := run_appendB (P := P) w tx o.type bt base v l hown vx news hsrc hlen hbase
  unfold Oper.wp execOp
  simp only [ho, resolve, invoke, builtin, Sem.run_bind, Sem.run_pure, Result.andThen_ok, List.map_toArray, List.map_cons, List.map_nil, hs, hx, hr]
  exact hK _ _ (h v' w' h2 h3 h4)

/-- The same inside a region whose order is drawn. -/
theorem step_appendB {P : Program} {w : World} {ops : Array Oper} {o : Oper} {a : Act} {K : Act → World → Prop} {Q : Exit → Act → World → Prop} {E : Prop} (hgd : o.guard = none) (s x : Operand) (t tx : TypeId)
    (ho : o.op = .call { callee := .builtin .append, args := #[s, x], argTypes := #[t, tx] }) {e : TypeId} (bt : ByteTy P t e) (base : Nat) (v : Value) (hs : a.eval s = v) (l : List UInt8) (hown : OwnB e base w v l)
    (vx : Value) (hx : a.eval x = vx) (news : List UInt8) (hsrc : Src P 1 tx vx news.length (bv news) w) (hlen : l.length + news.length ≤ 140737488355328) (hbase : base ≤ w.heap.size)
    (h : ∀ v' w', OwnB e base w' v' (l ++ news) → Below base w w' → w.grownBy w' v.ownBlock → K (a.put o.dst v') w') :
    if Region.wanted o (yielded ops a.tmps) = true then Oper.wp P o a w K Q else E := by
  have hw : Region.wanted o (yielded ops a.tmps) = true := by simp [Region.wanted, hgd]
  rw [if_pos hw]
  obtain ⟨v', w', hr, h2, h3, h4⟩ := run_appendB (P := P) w tx o.type bt base v l hown vx news hsrc hlen hbase
  unfold Oper.wp execOp
  simp only [ho, resolve, invoke, builtin, Sem.run_bind, Sem.run_pure, Result.andThen_ok, List.map_toArray, List.map_cons, List.map_nil, hs, hx, hr]
  exact h v' w' h2 h3 h4

theorem zeroCells_u8 (k : Nat) : Builtin.zeroCells #[Value.int .u8 0] k = (bv (List.replicate k 0)).toArray := by
  apply Array.ext'
  simp only [Builtin.zeroCells, bv, List.map_replicate, Array.toList_map, Array.toList_range]
  apply List.ext_getElem
  · simp
  · intro i h1 h2
    simp [Nat.mod_one]

/-- 'append(v, make([]byte, k)...)' onto a slice of the call's own. -/
theorem run_appendZ {P : Program} (w : World) (tn ty : TypeId) {t e : TypeId} (bt : ByteTy P t e) {kn : IntKind} (htn : P.underlying tn = some (.int kn)) (base : Nat) (v : Value) (l : List UInt8) (hown : OwnB e base w v l) (k : Nat)
    (hk1 : k ≤ 1000000) (hlen : l.length ≤ 1000000000) (hbase : base ≤ w.heap.size) :
    ∃ v' w', (Builtin.append_ #[t, tn] ty #[v, .int .i64 k]).run P w = .ok v' w' ∧ OwnB e base w' v' (l ++ List.replicate k 0) ∧ Below base w w' ∧ w.grownBy w' v.ownBlock := by
  obtain ⟨i, hi, hz, hs1, hb1⟩ := bt.info
  have h63 : l.length + k ≤ maxLen := by unfold maxLen; omega
  have hwk : IntKind.i64.wrap (k : Int) = k := by rw [IntKind.wrap_i64]; omega
  have hneg : ¬ ((k : Int) < 0) := by omega
  have hbig : ¬ (281474976710656 < (k : Int)) := by omega
  have hrl : (List.replicate k (0 : UInt8)).length = k := by simp
  have hz1 : (Value.int IntKind.u8 0).cells = #[.int .u8 0] := rfl
  rcases hown.2 with ⟨rfl, h0⟩ | ⟨g, cap, cur, rfl, hbg, hg, hnc, hcm, hcs, htake⟩
  · have hl : l = [] := List.eq_nil_of_length_eq_zero h0
    subst hl
    by_cases hn : k = 0
    · subst hn
      refine ⟨.slice none 0 0, w, ?_, World.ownsRow_nil w base e 1, Below.refl _ _, ⟨rfl, rfl, rfl, Nat.le_refl _, fun _ _ _ => rfl⟩⟩
      have hw0 : IntKind.i64.wrap 0 = 0 := by decide
      simp [Builtin.append_, run_underlying bt.slice, run_underlying htn, sizeOf, typeInfo, hi, hs1, hb1, asInt, asIntOf, hw0]
    · have hr := Lib.run_append_nil_zeros (P := P) w t tn ty e i (.int .u8 0) .i64 kn bt.slice htn hi hz k (by omega) (by omega) (by omega) (by rw [hb1]; omega)
      have hge := grownCap_ge w k 0 e
      refine ⟨_, _, hr, ⟨by simp [bv_length], .inr ⟨w.heap.size, grownCap w k 0 e, _, by simp, hbase, heap_alloc_new w.drew _, by simpa using hge, grownCap_le_maxLen w _ 0 e (by simpa using h63), ?_, ?_⟩⟩,
        ((Below.refl _ _).drew).alloc (by simpa using hbase) _, ⟨rfl, rfl, rfl, by simp, fun k hk _ => Below.heap_alloc w.drew _ k hk⟩⟩
      · simp [Builtin.zeroCells, Value.cells]; omega
      · rw [hz1, zeroCells_u8, zeroCells_u8]
        simp only [List.nil_append, Nat.mul_one, hrl, Array.toList_append]
        exact List.take_left' (by simp [bv_length])
  · have hcs' : cur.size = cap := by simpa using hcs
    have htake' : cur.toList.take l.length = bv l := by simpa using htake
    by_cases hk0 : k = 0
    · subst hk0
      have hw0 : IntKind.i64.wrap 0 = 0 := by decide
      refine ⟨_, w, ?_, by simpa using hown, Below.refl _ _, ⟨rfl, rfl, rfl, Nat.le_refl _, fun _ _ _ => rfl⟩⟩
      simp [Builtin.append_, run_underlying bt.slice, run_underlying htn, sizeOf, typeInfo, hi, hs1, hb1, asInt, asIntOf, hw0, hnc, Addr.add_lit, storeCells]
    by_cases hroom : l.length + k ≤ cap
    · have hst := run_storeCells_at P g (l.length * 1) e (bv (List.replicate k 0)) 0 cur w hg (by simp [bv_length]; omega) (bv_one _)
      simp only [Nat.add_zero, Nat.mul_one] at hst
      have hr : (Builtin.append_ #[t, tn] ty #[.slice (some ⟨g, 0, none⟩) l.length cap, .int .i64 k]).run P w =
          .ok (.slice (some ⟨g, 0, none⟩) (l.length + k) cap) (w.setRow g (cur.toList.take l.length ++ bv (List.replicate k 0) ++ cur.toList.drop (l.length + (bv (List.replicate k 0)).length)).toArray) := by
        simp [Builtin.append_, run_underlying bt.slice, run_underlying htn, sizeOf, typeInfo, zeroValue, hi, hs1, hb1, hz, asInt, asIntOf, hwk, hneg, hbig, hroom, hk0, Addr.add_lit, hz1, zeroCells_u8, hst]
      refine ⟨_, _, hr, ⟨by simp [bv_length], .inr ⟨g, cap, _, by simp, hbg, setRow_heap w g cur _ e _ hg, by simpa using hroom, hcm, ?_, ?_⟩⟩, ?_, ⟨rfl, rfl, rfl, by simp, fun k _ hk => setRow_other w g k _ (fun e => hk (by simp [Value.ownBlock, e]))⟩⟩
      · simp [bv_length]; omega
      · rw [htake']
        rw [show ((bv l ++ bv (List.replicate k 0) ++ List.drop (l.length + (bv (List.replicate k 0)).length) cur.toList).toArray).toList = bv (l ++ List.replicate k 0) ++ List.drop (l.length + (bv (List.replicate k 0)).length) cur.toList by simp [bv_append]]
        exact List.take_left' (by simp [bv_length])
      · exact ⟨rfl, rfl, rfl, by simp, fun k hk => setRow_other w g k _ (by omega)⟩
    · have holds : ∀ j u, (bv l)[j]? = some u → w.cell? ((⟨g, 0, none⟩ : Addr).add j) = some u := hown.cells (g := g) rfl
      have hold := run_firstCells_some (P := P) w.drew 1 l.length ⟨g, 0, none⟩ l.length cap (bv l) (by simp [bv_length]) (by simpa using holds)
      have hr := Lib.run_append_grow_zeros (P := P) w t tn ty e i (.int .u8 0) .i64 kn bt.slice htn hi hz (some ⟨g, 0, none⟩) l.length cap (bv l) (hs1 ▸ hold) k (by omega) (by omega) (by omega) (by simp only [maxLen] at h63; omega) (by rw [hb1]; omega)
        (by rw [hb1]; exact growslice_fits (by omega) (by omega))
      have hge := grownCap_ge w (l.length + k) cap e
      refine ⟨_, _, hr, ⟨by simp [bv_length], .inr ⟨w.heap.size, _, _, by simp, hbase, heap_alloc_new w.drew _, by simpa using hge, grownCap_le_maxLen w _ cap e h63, ?_, ?_⟩⟩,
        ((Below.refl _ _).drew).alloc (by simpa using hbase) _, ⟨rfl, rfl, rfl, by simp, fun k hk _ => Below.heap_alloc w.drew _ k hk⟩⟩
      · simp [bv_length, Builtin.zeroCells, Value.cells]
        omega
      · rw [hz1, zeroCells_u8]
        simp [bv_append, bv_length, List.take_append, List.take_of_length_le]

/-- The same at the operation, for the walk. -/
theorem wpList_appendZ {P : Program} {w : World} {ops : Array Oper} {rest : List Oper} {o : Oper} {a : Act} {Q : Exit → Act → World → Prop} (hgd : o.guard = none) (s x : Operand) (t tx : TypeId)
    (ho : o.op = .call { callee := .builtin .append, args := #[s, x], argTypes := #[t, tx] }) {e : TypeId} (bt : ByteTy P t e) {kn : IntKind} (htn : P.underlying tx = some (.int kn)) (base : Nat) (v : Value) (hs : a.eval s = v) (l : List UInt8) (hown : OwnB e base w v l)
    (k : Nat) (hx : a.eval x = .int .i64 k) (hk1 : k ≤ 1000000) (hlen : l.length ≤ 1000000000) (hbase : base ≤ w.heap.size)
    (h : ∀ v' w', OwnB e base w' v' (l ++ List.replicate k 0) → Below base w w' → w.grownBy w' v.ownBlock → wpList P ops Q rest (a.put o.dst v') w') : wpList P ops Q (o :: rest) a w := by
  refine wpList_plain hgd fun K hK => ?_
  obtain ⟨v', w', hr, h2, h3, h4⟩ := run_appendZ (P := P) w tx o.type bt htn base v l hown k hk1 hlen hbase
  unfold Oper.wp execOp
  simp only [ho, resolve, invoke, builtin, Sem.run_bind, Sem.run_pure, Result.andThen_ok, List.map_toArray, List.map_cons, List.map_nil, hs, hx, hr]
  exact hK _ _ (h v' w' h2 h3 h4)

/-- 'string(b)'. -/
theorem run_string_of {P : Program} {t e dst : TypeId} (bt : ByteTy P t e) (hd : P.underlying dst = some .string) {w : World} {v : Value} {l : List UInt8} (h : RdB w v l) :
    (convert t dst v).run P w = .ok (.string ⟨l.toArray⟩) w := by
  rcases h with ⟨a, c, rfl, rfl⟩ | ⟨g, off, cap, rfl, hg, _, _, hc⟩
  · cases a with
    | none => exact run_convert_bytes_nil (w := w) t e bt.slice bt.elem 0 c dst hd
    | some a => exact run_convert_bytes_back w t dst e a c [] bt.slice bt.elem hd fun j hj => by simp at hj
  · refine run_convert_bytes_back w t dst e ⟨g, off, none⟩ cap l bt.slice bt.elem hd fun j hj => ?_
    rw [addr_add, hc j hj]
    simp [List.getD, List.getElem?_eq_getElem hj]

theorem RdB.length {w : World} {v : Value} {l : List UInt8} (h : RdB w v l) : ∃ a cap, v = .slice a l.length cap := by
  rcases h with ⟨a, c, rfl, rfl⟩ | ⟨g, off, cap, rfl, _⟩
  · exact ⟨a, c, rfl⟩
  · exact ⟨_, cap, rfl⟩

/-- 'b[lo:hi]': what it yields, and how that reads. -/
theorem slice_rd {P : Program} {t e : TypeId} (bt : ByteTy P t e) (g off len cap lo hi : Nat) (h1 : lo ≤ hi) (h2 : hi ≤ cap) :
    ∃ v2, (∀ (l h : Int), l = lo → h = hi → ∀ W, (Instr.slice t (.slice (some ⟨g, off, none⟩) len cap) (some (.int .i64 l)) (some (.int .i64 h)) none).run P W = .ok v2 W) ∧
      ∀ W (L : List UInt8), L.length = len → hi ≤ len → len ≤ cap → cap ≤ maxLen → g < W.heap.size → (∀ j, j < L.length → W.cell? ⟨g, off + j, none⟩ = some (.int .u8 (L.getD j 0).toNat)) → RdB W v2 ((L.drop lo).take (hi - lo)) := by
  have helem : P.elem t = e := by simp [Program.elem, bt.slice]
  have ht : P.underlying t = some (.slice (P.elem t)) := by rw [helem]; exact bt.slice
  obtain ⟨i, hi', hz, hs1, hb1⟩ := bt.info
  refine ⟨sliced (some ⟨g, off, none⟩) lo hi cap 1, ?_, ?_⟩
  · rintro l h rfl rfl W
    have hsz : (sizeOf (P.elem t)).run P W = .ok 1 W := by rw [helem]; simp [sizeOf, typeInfo, hi', hs1]
    rw [run_slice_lh (w := W) t _ _ _ ht .i64 .i64 lo hi (by omega) (by omega) (by omega), hsz]
    simp
  · intro W L hL hhi hlc hcm hg hc
    have hlen : ((L.drop lo).take (hi - lo)).length = hi - lo := by simp; omega
    unfold sliced
    by_cases hcl : cap = lo
    · refine .inr ⟨g, off, cap - lo, by rw [if_pos hcl, hlen], hg, by rw [hlen]; omega, by omega, fun j hj => ?_⟩
      rw [hlen] at hj; omega
    · refine .inr ⟨g, off + lo, cap - lo, by rw [if_neg hcl, hlen]; simp [addr_add], hg, by rw [hlen]; omega, by omega, fun j hj => ?_⟩
      rw [hlen] at hj
      rw [Nat.add_assoc, hc (lo + j) (by omega)]
      congr 3
      simp [List.getD, List.getElem?_take, hj]

end Go.Proofs.YtfafdkbnmfpbmaaGreatDoor.Kit
