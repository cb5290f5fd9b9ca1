/- Layer 12: the compiler in memory. -/
import Derived.Test.YtfafdkbnmfpbmaaDoorXcPlain
import Derived.Test.YtfafdkbnmfpbmaaDoorKitH
import Derived.Test.YtfafdkbnmfpbmaaDoorF8Base
namespace Go.Proofs.YtfafdkbnmfpbmaaDoor
open Go.RowKit Kit
set_option linter.unusedVariables false
set_option linter.unusedSimpArgs false

theorem xwrt : RowTy Tryd.prog 79 89 3 48 :=
  ⟨Tryd.underlying79, by
    have h : (Tryd.prog.info? 89).map (fun i => (i.zero, i.size, i.bytes)) = some (some (.agg #[.string ByteArray.empty, .int .i64 0, .slice none 0 0]), 3, 48) := by kernel_rfl
    obtain ⟨i, h1, h2, h3, h4⟩ := info_parts h
    exact ⟨i, _, h1, h2, h3, h4, by kernel_rfl⟩⟩
theorem xort : RowTy Tryd.prog 80 180 2 32 :=
  ⟨Tryd.underlying80, by
    have h : (Tryd.prog.info? 180).map (fun i => (i.zero, i.size, i.bytes)) = some (some (.agg #[.string ByteArray.empty, .string ByteArray.empty]), 2, 32) := by kernel_rfl
    obtain ⟨i, h1, h2, h3, h4⟩ := info_parts h
    exact ⟨i, _, h1, h2, h3, h4, by kernel_rfl⟩⟩
/-- These cells are these words; R: of the slices. -/
def Xc.Ws (R : Value → List (List UInt8) → Prop) : List Xc.W → List Value → Prop
  | [], cs => cs = []
  | x :: t, cs => ∃ vl r, cs = .string ⟨x.first.toArray⟩ :: .int .i64 (x.flags : Int) :: vl :: r ∧ R vl x.lines ∧ Xc.Ws R t r
def Xc.blks (cs : List Value) : List Nat := cs.filterMap Value.ownBlock
theorem Xc.blks_app (a b : List Value) : Xc.blks (a ++ b) = Xc.blks a ++ Xc.blks b := List.filterMap_append
theorem Xc.blks_three (f : ByteArray) (n : Int) (v : Value) : Xc.blks [.string f, .int .i64 n, v] = v.ownBlock.toList := by
  have e1 : (Value.string f).ownBlock = none := rfl
  have e2 : (Value.int .i64 n).ownBlock = none := rfl
  unfold Xc.blks
  cases h : v.ownBlock <;> simp [List.filterMap_cons, e1, e2, h]
theorem Xc.blks_cons (f : ByteArray) (n : Int) (v : Value) (r : List Value) : Xc.blks (.string f :: .int .i64 n :: v :: r) = v.ownBlock.toList ++ Xc.blks r := by
  have := Xc.blks_app [.string f, .int .i64 n, v] r
  rw [Xc.blks_three] at this
  exact this
theorem Xc.Ws.len {R : Value → List (List UInt8) → Prop} : ∀ {ws : List Xc.W} {cs : List Value}, Xc.Ws R ws cs → cs.length = ws.length * 3
  | [], cs, e => by have e : cs = [] := e; subst e; rfl
  | x :: t, cs, ⟨vl, r, e, h1, h2⟩ => by subst e; have := h2.len; simp only [List.length_cons, this]; omega
theorem Xc.Ws.mapIf {R R' : Value → List (List UInt8) → Prop} {P : Nat → Prop} (h : ∀ u l, (∀ k, u.ownBlock = some k → P k) → R u l → R' u l) : ∀ {ws : List Xc.W} {cs : List Value}, Xc.Ws R ws cs → (∀ k ∈ Xc.blks cs, P k) → Xc.Ws R' ws cs
  | [], _, e, _ => e
  | x :: t, _, ⟨vl, r, e, h1, h2⟩, hp => by
    subst e
    rw [Xc.blks_cons] at hp
    exact ⟨vl, r, rfl, h vl x.lines (fun k hk => hp k (by simp [hk])) h1, Xc.Ws.mapIf h h2 (fun k hk => hp k (by simp [hk]))⟩
theorem Xc.Ws.snoc {R : Value → List (List UInt8) → Prop} {x : Xc.W} {vl : Value} (h1 : R vl x.lines) : ∀ {ws : List Xc.W} {cs : List Value}, Xc.Ws R ws cs → Xc.Ws R (ws ++ [x]) (cs ++ [.string ⟨x.first.toArray⟩, .int .i64 (x.flags : Int), vl])
  | [], cs, e => by have e : cs = [] := e; subst e; exact ⟨vl, [], rfl, h1, rfl⟩
  | _ :: _, _, ⟨vl', r, e, g1, g2⟩ => by subst e; exact ⟨vl', _, rfl, g1, Xc.Ws.snoc h1 g2⟩
theorem Xc.Ws.unsnoc {R : Value → List (List UInt8) → Prop} {x : Xc.W} : ∀ {ws : List Xc.W} {cs : List Value}, Xc.Ws R (ws ++ [x]) cs → ∃ ci vl, cs = ci ++ [.string ⟨x.first.toArray⟩, .int .i64 (x.flags : Int), vl] ∧ Xc.Ws R ws ci ∧ R vl x.lines
  | [], cs, ⟨vl, r, e, h1, h2⟩ => by
    have h2 : r = [] := h2
    subst h2
    exact ⟨[], vl, e, rfl, h1⟩
  | y :: t, cs, ⟨vl, r, e, h1, h2⟩ => by
    obtain ⟨ci, v2, e2, g1, g2⟩ := Xc.Ws.unsnoc (ws := t) h2
    subst e2 e
    exact ⟨_, v2, rfl, ⟨vl, ci, rfl, h1, g1⟩, g2⟩
theorem Xc.upd_snoc (f : Xc.W → Xc.W) (x : Xc.W) : ∀ (ws : List Xc.W), Xc.upd f (ws ++ [x]) = ws ++ [f x]
  | [] => rfl
  | [y] => rfl
  | y :: z :: t => by
    have := Xc.upd_snoc f x (z :: t)
    simp only [List.cons_append] at this ⊢
    rw [Xc.upd, this]
theorem Xc.words_last {ws : List Xc.W} (h : ws ≠ []) : ∃ init x, ws = init ++ [x] := by
  rcases List.eq_nil_or_concat ws with e | ⟨i, x, e⟩
  · exact absurd e h
  · exact ⟨i, x, by simpa using e⟩
def Xc.cells (S : Xc.S) (tag : List UInt8) (vw vo : Value) : Array Value := #[.string ⟨S.s.toArray⟩, .string ⟨tag.toArray⟩, vw, .bool S.within, .string ⟨S.name.toArray⟩, vo, .int .i64 (S.made : Int), .string ⟨S.number.toArray⟩]
/-- The compiler in block gm; F: its blocks. -/
structure Xc.Mk (F : Nat → Prop) (W : World) (gm : Nat) (tag : List UInt8) (S : Xc.S) : Prop where
  obj : ∃ vw vo cs, Bk W gm 82 (Xc.cells S tag vw vo) ∧ W.ownsRow 0 89 3 vw S.words.length cs ∧ Xc.Ws (OwnS 0 W) S.words cs ∧ (Xc.blks cs).Nodup ∧ W.ownsRow 0 180 2 vo S.opens.length (F8.opc S.opens) ∧
    (∀ k, vw.ownBlock = some k → F k) ∧ (∀ k, vo.ownBlock = some k → F k) ∧ ∀ k ∈ Xc.blks cs, F k
  gm : F gm
  lt : ∀ k, F k → k < W.heap.size
/-- The compiler goes on. -/
def Xc.To (F : Nat → Prop) (w : World) (gm : Nat) (tag : List UInt8) (S : Xc.S) (w' : World) : Prop := ∃ F', Xc.Mk F' w' gm tag S ∧ Step F w F' w'
theorem Xc.own_fr {F : Nat → Prop} {w w' : World} (h : Fr F w w') {base : Nat} {v : Value} {l : List (List UInt8)} (ho : OwnS base w v l) (hg : ∀ k, v.ownBlock = some k → ¬ F k) : OwnS base w' v l := h.own ho hg
/-- Other blocks change. -/
theorem Xc.Mk.fr {F G : Nat → Prop} {W W' : World} {gm : Nat} {tag : List UInt8} {S : Xc.S} (h : Xc.Mk F W gm tag S) (hf : Fr G W W') (hd : ∀ k, F k → ¬ G k) : Xc.Mk F W' gm tag S := by
  obtain ⟨vw, vo, cs, h1, h2, h3, h4, h5, h6, h7, h8⟩ := h.obj
  exact ⟨⟨vw, vo, cs, hf.bk h1 (hd _ h.gm), hf.own h2 (fun k hk => hd k (h6 k hk)), h3.mapIf (P := F) (fun u l hu ho => Xc.own_fr hf ho fun k hk => hd k (hu k hk)) h8, h4, hf.own h5 (fun k hk => hd k (h7 k hk)), h6, h7, h8⟩, h.gm, fun k hk => Nat.lt_of_lt_of_le (h.lt k hk) hf.size⟩
theorem Xc.Mk.kept {F : Nat → Prop} {W W' : World} {gm : Nat} {tag : List UInt8} {S : Xc.S} (h : Xc.Mk F W gm tag S) (hb : Below W.heap.size W W') : Xc.Mk F W' gm tag S :=
  h.fr (Fr.of_below (F := fun _ => False) hb) (fun _ _ h => h)
theorem Xc.To.refl {F : Nat → Prop} {w : World} {gm : Nat} {tag : List UInt8} {S : Xc.S} (h : Xc.Mk F w gm tag S) : Xc.To F w gm tag S w := ⟨F, h, Step.refl F w⟩
theorem Xc.To.after {F F1 : Nat → Prop} {w w1 w2 : World} {gm : Nat} {tag : List UInt8} {S : Xc.S} (h : Xc.To F1 w1 gm tag S w2) (a : Step F w F1 w1) : Xc.To F w gm tag S w2 := by
  obtain ⟨F2, h1, h2⟩ := h
  exact ⟨F2, h1, a.trans h2⟩
theorem Xc.To.kept {F : Nat → Prop} {w w1 w2 : World} {gm : Nat} {tag : List UInt8} {S : Xc.S} (h : Xc.To F w gm tag S w1) (hb : Below w1.heap.size w1 w2) : Xc.To F w gm tag S w2 := by
  obtain ⟨F1, h1, h2⟩ := h
  exact ⟨F1, h1.kept hb, h2.trans (Step.of_below hb)⟩
/-- A cell of the compiler's own block is set, no row's. -/
theorem Xc.Mk.set {F : Nat → Prop} {W : World} {gm : Nat} {tag : List UInt8} {S S' : Xc.S} (h : Xc.Mk F W gm tag S) (i : Nat) (u : Value) (hw : S'.words = S.words) (ho : S'.opens = S.opens)
    (hc : ∀ vw vo, (Xc.cells S tag vw vo).setIfInBounds i u = Xc.cells S' tag vw vo) : Xc.To F W gm tag S' (W.setCell ⟨gm, i, none⟩ u) := by
  obtain ⟨vw, vo, cs, h1, h2, h3, h4, h5, h6, h7, h8⟩ := h.obj
  have hs := But.setCell W gm i u
  have hb := h1.set i u
  rw [hc] at hb
  refine ⟨F, ⟨⟨vw, vo, cs, hb, ?_, ?_, h4, ?_, h6, h7, h8⟩, h.gm, fun k hk => ?_⟩, Fr.of_but hs h.gm, fun k hk => .inl hk⟩
  · rw [hw]; exact own_but h2 h1 (by decide) hs
  · rw [hw]
    exact h3.mapIf (P := fun _ => True) (fun u l _ hz => own_but hz h1 (by decide) hs) (fun _ _ => trivial)
  · rw [ho]; exact own_but h5 h1 (by decide) hs
  · have := h.lt k hk; simpa [World.setCell] using this
/-- The rows of texts are other blocks than these. -/
theorem Xc.blks_ne {W : World} {ws : List Xc.W} {cs : List Value} (h : Xc.Ws (OwnS 0 W) ws cs) {e : TypeId} {base size n : Nat} {v : Value} {xs : List Value} (ho : W.ownsRow base e size v n xs) (hne : e ≠ 9) {k : Nat} (hk : v.ownBlock = some k) : ∀ j ∈ Xc.blks cs, j ≠ k := by
  induction ws generalizing cs with
  | nil => have h : cs = [] := h; subst h; intro j hj; simp [Xc.blks] at hj
  | cons x t ih =>
    obtain ⟨vl, r, e, h1, h2⟩ := h
    subst e
    intro j hj e
    subst e
    rw [Xc.blks_cons] at hj
    rcases List.mem_append.1 hj with hj | hj
    · exact own_uniq ho h1 hne hk (by simpa using hj)
    · exact ih h2 j hj rfl
theorem Xc.blks_lt {W : World} {ws : List Xc.W} {cs : List Value} (h : Xc.Ws (OwnS 0 W) ws cs) : ∀ j ∈ Xc.blks cs, j < W.heap.size := by
  induction ws generalizing cs with
  | nil => have h : cs = [] := h; subst h; intro j hj; simp [Xc.blks] at hj
  | cons x t ih =>
    obtain ⟨vl, r, e, h1, h2⟩ := h
    subst e
    intro j hj
    rw [Xc.blks_cons] at hj
    rcases List.mem_append.1 hj with hj | hj
    · exact own_lt' h1 (by simpa using hj)
    · exact ih h2 j hj
/-- What the walk of put meets. -/
theorem Xc.Mk.last {F : Nat → Prop} {W : World} {gm : Nat} {tag : List UInt8} {S : Xc.S} {init : List Xc.W} {x : Xc.W} (h : Xc.Mk F W gm tag S) (hS : S.words = init ++ [x]) :
    ∃ gw cap vo vl, Bk W gm 82 (Xc.cells S tag (.slice (some ⟨gw, 0, none⟩) (init.length + 1) cap) vo) ∧ init.length + 1 ≤ cap ∧ cap ≤ maxLen ∧ gw < W.heap.size ∧ W.cell? ⟨gw, init.length * 3, none⟩ = some (.string ⟨x.first.toArray⟩) ∧ W.cell? ⟨gw, init.length * 3 + 1, none⟩ = some (.int .i64 (x.flags : Int)) ∧ W.cell? ⟨gw, init.length * 3 + 2, none⟩ = some vl ∧ W.frozen? ⟨gw, init.length * 3 + 1, none⟩ = false ∧ W.frozen? ⟨gw, init.length * 3 + 2, none⟩ = false ∧ OwnS 0 W vl x.lines ∧
      (∀ u, Xc.To F W gm tag ⟨S.s, init ++ [⟨x.first, u, x.lines⟩], S.within, S.name, S.opens, S.made, S.number⟩ (W.setCell ⟨gw, init.length * 3 + 1, none⟩ (.int .i64 (u : Nat)))) ∧
      ∀ v' w1 ls, w1.ownsRow 0 9 1 v' (x.lines.length + ls.length) (L6.sv x.lines ++ L6.sv ls) → W.grownBy w1 vl.ownBlock → (∀ k, v'.ownBlock = some k → vl.ownBlock = some k ∨ W.heap.size ≤ k) →
        w1.cell? ⟨gw, init.length * 3 + 2, none⟩ = some vl ∧ w1.frozen? ⟨gw, init.length * 3 + 2, none⟩ = false ∧ Hid (Xc.To F W gm tag (Xc.put ls S) (w1.setCell ⟨gw, init.length * 3 + 2, none⟩ v')) := by
  obtain ⟨vw, vo, cs, h1, h2, h3, h4, h5, h6, h7, h8⟩ := h.obj
  rw [hS] at h2 h3
  rw [List.length_append, List.length_cons, List.length_nil, Nat.zero_add] at h2
  obtain ⟨ci, vl, rfl, g1, g2⟩ := h3.unsnoc
  have hcl := g1.len
  have h2' := h2
  obtain ⟨hlen, hrow⟩ := h2
  rcases hrow with ⟨_, h0⟩ | ⟨gw, cap, cur, rfl, _, hh, hnc, hcm, hcs, htake⟩
  · omega
  have hbk : Bk W gw 89 cur := hh
  have hcur : ∀ (j : Nat) (u : Value), (ci ++ [Value.string ⟨x.first.toArray⟩, .int .i64 (x.flags : Int), vl])[j]? = some u → cur[j]? = some u := by
    intro j u hu
    have hj : j < (init.length + 1) * 3 := by have := (List.getElem?_eq_some_iff.1 hu).1; simp at this; omega
    rw [← htake, List.getElem?_take, if_pos hj] at hu
    simpa using hu
  have k0 : (ci ++ [Value.string ⟨x.first.toArray⟩, .int .i64 (x.flags : Int), vl])[init.length * 3]? = some (.string ⟨x.first.toArray⟩) := by rw [List.getElem?_append_right (by omega), hcl]; simp
  have k1 : (ci ++ [Value.string ⟨x.first.toArray⟩, .int .i64 (x.flags : Int), vl])[init.length * 3 + 1]? = some (.int .i64 (x.flags : Int)) := by rw [List.getElem?_append_right (by omega), hcl, show init.length * 3 + 1 - init.length * 3 = 1 by omega]; rfl
  have k2 : (ci ++ [Value.string ⟨x.first.toArray⟩, .int .i64 (x.flags : Int), vl])[init.length * 3 + 2]? = some vl := by rw [List.getElem?_append_right (by omega), hcl, show init.length * 3 + 2 - init.length * 3 = 2 by omega]; rfl
  have hgw : F gw := h6 gw rfl
  rw [Xc.blks_app, Xc.blks_three] at h4 h8
  have hdis := List.nodup_append.1 h4
  have hset : ∀ (w1 : World) (j : Nat) (u : Value) (cs' : List Value), Bk w1 gw 89 cur → (ci ++ [Value.string ⟨x.first.toArray⟩, .int .i64 (x.flags : Int), vl]).set j u = cs' → (w1.setCell ⟨gw, j, none⟩ u).ownsRow 0 89 3 (.slice (some ⟨gw, 0, none⟩) (init.length + 1) cap) (init.length + 1) cs' := by
    intro w1 j u cs' hb e
    subst e
    refine ⟨by rw [List.length_set]; exact hlen, .inr ⟨gw, cap, cur.setIfInBounds j u, rfl, Nat.zero_le _, hb.set j u, hnc, hcm, by simpa using hcs, ?_⟩⟩
    rw [← htake, Array.toList_setIfInBounds, List.take_set]
  refine ⟨gw, cap, vo, vl, h1, hnc, hcm, hbk.lt, (hbk.cell _).trans (hcur _ _ k0), (hbk.cell _).trans (hcur _ _ k1), (hbk.cell _).trans (hcur _ _ k2), hbk.free _, hbk.free _, g2, fun u => ?_, fun v' w1 ls ho hg hv => ?_⟩
  · have hs := But.setCell W gw (init.length * 3 + 1) (.int .i64 (u : Nat))
    have hcs : (ci ++ [Value.string ⟨x.first.toArray⟩, .int .i64 (x.flags : Int), vl]).set (init.length * 3 + 1) (.int .i64 (u : Nat)) = ci ++ [Value.string ⟨x.first.toArray⟩, .int .i64 (u : Int), vl] := by
      rw [List.set_append_right _ _ (by omega), hcl, show init.length * 3 + 1 - init.length * 3 = 1 by omega]; rfl
    have hne : gm ≠ gw := h1.ne hbk (by decide)
    refine ⟨F, ⟨⟨.slice (some ⟨gw, 0, none⟩) (init.length + 1) cap, vo, ci ++ [Value.string ⟨x.first.toArray⟩, .int .i64 (u : Int), vl], hs.bk h1 hne, ?_, ?_, ?_, own_but h5 hbk (by decide) hs, h6, h7, ?_⟩, h.gm, fun k hk => ?_⟩, Fr.of_but hs hgw, fun k hk => .inl hk⟩
    · rw [show (init ++ [(⟨x.first, u, x.lines⟩ : Xc.W)]).length = init.length + 1 by simp]
      exact hset W _ _ _ hbk hcs
    · exact Xc.Ws.snoc (x := ⟨x.first, u, x.lines⟩) (own_but g2 hbk (by decide) hs) (g1.mapIf (P := fun _ => True) (fun z l _ hz => own_but hz hbk (by decide) hs) (fun _ _ => trivial))
    · rw [Xc.blks_app, Xc.blks_three]; exact h4
    · rw [Xc.blks_app, Xc.blks_three]; exact h8
    · have := h.lt k hk; simpa [World.setCell] using this
  · have hvl : ∀ k, vl.ownBlock = some k → F k := fun k hk => h8 k (by simp [hk])
    have hbk1 : Bk w1 gw 89 cur := (hg.block gw hbk.lt (fun e => own_bk_ne g2 hbk (by decide) e.symm)).trans hbk
    have hgm1 : Bk w1 gm 82 _ := (hg.block gm h1.lt (fun e => own_bk_ne g2 h1 (by decide) e.symm)).trans h1
    have hfr : Fr F W w1 := Fr.of_grown hg hvl
    have hs := But.setCell w1 gw (init.length * 3 + 2) v'
    have hne : gm ≠ gw := h1.ne hbk (by decide)
    refine ⟨(hbk1.cell _).trans (hcur _ _ k2), hbk1.free _, Lib.hid ?_⟩
    have hcs : (ci ++ [Value.string ⟨x.first.toArray⟩, .int .i64 (x.flags : Int), vl]).set (init.length * 3 + 2) v' = ci ++ [Value.string ⟨x.first.toArray⟩, .int .i64 (x.flags : Int), v'] := by
      rw [List.set_append_right _ _ (by omega), hcl, show init.length * 3 + 2 - init.length * 3 = 2 by omega]; rfl
    have ho5 : w1.ownsRow 0 180 2 vo S.opens.length (F8.opc S.opens) := own_grown_ne h5 hg (fun k hk => fun e => own_uniq h5 g2 (by decide) hk e)
    have hci : Xc.Ws (OwnS 0 w1) init ci := by
      refine g1.mapIf (P := fun k => vl.ownBlock ≠ some k) (fun z l hz hzo => own_grown_ne hzo hg hz) fun k hk e => ?_
      exact hdis.2.2 k hk k (by simp [e]) rfl
    have hvn : ∀ k, v'.ownBlock = some k → k < w1.heap.size := fun k hk => own_lt' ho hk
    refine ⟨fun k => F k ∨ v'.ownBlock = some k, ⟨⟨.slice (some ⟨gw, 0, none⟩) (init.length + 1) cap, vo, ci ++ [Value.string ⟨x.first.toArray⟩, .int .i64 (x.flags : Int), v'], hs.bk hgm1 hne, ?_, ?_, ?_, own_but ho5 hbk1 (by decide) hs, fun k hk => .inl (h6 k hk), fun k hk => .inl (h7 k hk), ?_⟩, .inl h.gm, fun k hk => ?_⟩, ⟨?_, fun k hk => ?_⟩⟩
    · show World.ownsRow _ 0 _ 3 _ (Xc.upd (Xc.add ls) S.words).length _
      rw [hS, Xc.upd_snoc, List.length_append, List.length_cons, List.length_nil, Nat.zero_add]
      exact hset w1 _ _ _ hbk1 hcs
    · show Xc.Ws _ (Xc.upd (Xc.add ls) S.words) _
      rw [hS, Xc.upd_snoc]
      refine Xc.Ws.snoc (x := Xc.add ls x) ?_ (hci.mapIf (P := fun _ => True) (fun z l _ hz => own_but hz hbk1 (by decide) hs) (fun _ _ => trivial))
      show OwnS 0 _ v' (x.lines ++ ls)
      unfold OwnS
      rw [List.length_append, show L6.sv (x.lines ++ ls) = L6.sv x.lines ++ L6.sv ls by simp [L6.sv]]
      exact own_but ho hbk1 (by decide) hs
    · rw [Xc.blks_app, Xc.blks_three]
      refine List.nodup_append.2 ⟨hdis.1, by cases v'.ownBlock <;> simp, fun a ha b hb e => ?_⟩
      subst e
      have hb : v'.ownBlock = some a := by simpa using hb
      rcases hv a hb with e | e
      · exact hdis.2.2 a ha a (by simp [e]) rfl
      · have := Xc.blks_lt g1 a ha; omega
    · rw [Xc.blks_app, Xc.blks_three]
      intro k hk
      rcases List.mem_append.1 hk with hk | hk
      · exact .inl (h8 k (by simp [hk]))
      · exact .inr (by simpa using hk)
    · have e : (w1.setCell ⟨gw, init.length * 3 + 2, none⟩ v').heap.size = w1.heap.size := by simp [World.setCell]
      rw [e]
      rcases hk with hk | hk
      · exact Nat.lt_of_lt_of_le (h.lt k hk) hg.size
      · exact hvn k hk
    · exact hfr.trans (Fr.of_but hs hgw) (fun k hk => .inl hk)
    · rcases hk with hk | hk
      · exact .inl hk
      · rcases hv k hk with e | e
        · exact .inl (hvl k e)
        · exact .inr e
/-- One more word. -/
theorem Xc.Mk.addW {F : Nat → Prop} {W w1 : World} {gm : Nat} {tag : List UInt8} {S : Xc.S} {f : List UInt8} (h : Xc.Mk F W gm tag S) :
    ∃ vw vo cs, Bk W gm 82 (Xc.cells S tag vw vo) ∧ W.ownsRow 0 89 3 vw S.words.length cs ∧
      ∀ Wa v' w1, Below W.heap.size W Wa → w1.ownsRow 0 89 3 v' (S.words.length + 1) (cs ++ [.string ⟨f.toArray⟩, .int .i64 0, .slice none 0 0]) → Wa.grownBy w1 vw.ownBlock → (∀ k, v'.ownBlock = some k → vw.ownBlock = some k ∨ Wa.heap.size ≤ k) →
        w1.cell? ⟨gm, 2, none⟩ = some vw ∧ w1.frozen? ⟨gm, 2, none⟩ = false ∧ Hid (Xc.To F W gm tag (Xc.addW f S) (w1.setCell ⟨gm, 2, none⟩ v')) := by
  obtain ⟨vw, vo, cs, h1, h2, h3, h4, h5, h6, h7, h8⟩ := h.obj
  refine ⟨vw, vo, cs, h1, h2, fun Wa v' w1 hb ho hg hv => ?_⟩
  have h1a := h1.kept hb
  have h2a := own_kept h2 hb
  have h5a := own_kept h5 hb
  have hgm1 : Bk w1 gm 82 _ := (hg.block gm h1a.lt (fun e => own_bk_ne h2a h1a (by decide) e.symm)).trans h1a
  have hs := But.setCell w1 gm 2 v'
  have ho5 : w1.ownsRow 0 180 2 vo S.opens.length (F8.opc S.opens) := own_grown_ne h5a hg (fun k hk => fun e => own_uniq h5a h2a (by decide) hk e)
  have hci : Xc.Ws (OwnS 0 w1) S.words cs := by
    refine h3.mapIf (P := fun _ => True) (fun z l _ hzo => ?_) (fun _ _ => trivial)
    have hza := own_kept hzo hb
    exact own_grown_ne hza hg (fun k hk => fun e => own_uniq hza h2a (by decide) hk e)
  have hfr : Fr F W w1 := (Fr.of_below hb).trans (Fr.of_grown hg h6) (fun k hk => .inl hk)
  refine ⟨hgm1.cell 2, hgm1.free 2, Lib.hid ⟨fun k => F k ∨ v'.ownBlock = some k, ⟨⟨v', vo, cs ++ [.string ⟨f.toArray⟩, .int .i64 0, .slice none 0 0], ?_, ?_, ?_, ?_, own_but ho5 hgm1 (by decide) hs, fun k hk => .inr hk, fun k hk => .inl (h7 k hk), ?_⟩, .inl h.gm, fun k hk => ?_⟩, ⟨?_, fun k hk => ?_⟩⟩⟩
  · exact hgm1.set 2 v'
  · show World.ownsRow _ 0 _ 3 _ (S.words ++ [(⟨f, 0, []⟩ : Xc.W)]).length _
    rw [List.length_append, List.length_cons, List.length_nil, Nat.zero_add]
    exact own_but ho hgm1 (by decide) hs
  · exact Xc.Ws.snoc (x := ⟨f, 0, []⟩) (World.ownsRow_nil _ _ _ _) (hci.mapIf (P := fun _ => True) (fun z l _ hz => own_but hz hgm1 (by decide) hs) (fun _ _ => trivial))
  · rw [Xc.blks_app, Xc.blks_three]
    simpa [Value.ownBlock] using h4
  · rw [Xc.blks_app, Xc.blks_three]
    intro k hk
    exact .inl (h8 k (by simpa [Value.ownBlock] using hk))
  · have e : (w1.setCell ⟨gm, 2, none⟩ v').heap.size = w1.heap.size := by simp [World.setCell]
    rw [e]
    rcases hk with hk | hk
    · exact Nat.lt_of_lt_of_le (h.lt k hk) (Nat.le_trans hb.size hg.size)
    · exact own_lt' ho hk
  · exact hfr.trans (Fr.of_but hs h.gm) (fun k hk => .inl hk)
  · rcases hk with hk | hk
    · exact .inl hk
    · rcases hv k hk with e | e
      · exact .inl (h6 k e)
      · exact .inr (Nat.le_trans hb.size e)
/-- One more waits. -/
theorem Xc.Mk.wait {F : Nat → Prop} {W : World} {gm : Nat} {tag : List UInt8} {S : Xc.S} (h : Xc.Mk F W gm tag S) (x k0 : List UInt8) :
    ∃ vw vo, Bk W gm 82 (Xc.cells S tag vw vo) ∧ W.ownsRow 0 180 2 vo S.opens.length (F8.opc S.opens) ∧
      ∀ Wa v' w1, Below W.heap.size W Wa → w1.ownsRow 0 180 2 v' (S.opens.length + 1) (F8.opc S.opens ++ [.string ⟨x.toArray⟩, .string ⟨k0.toArray⟩]) → Wa.grownBy w1 vo.ownBlock → (∀ k, v'.ownBlock = some k → vo.ownBlock = some k ∨ Wa.heap.size ≤ k) →
        w1.cell? ⟨gm, 5, none⟩ = some vo ∧ w1.frozen? ⟨gm, 5, none⟩ = false ∧ Hid (Xc.To F W gm tag (Xc.wait x k0 S) (w1.setCell ⟨gm, 5, none⟩ v')) := by
  obtain ⟨vw, vo, cs, h1, h2, h3, h4, h5, h6, h7, h8⟩ := h.obj
  refine ⟨vw, vo, h1, h5, fun Wa v' w1 hb ho hg hv => ?_⟩
  have h1a := h1.kept hb
  have h2a := own_kept h2 hb
  have h5a := own_kept h5 hb
  have hgm1 : Bk w1 gm 82 _ := (hg.block gm h1a.lt (fun e => own_bk_ne h5a h1a (by decide) e.symm)).trans h1a
  have hs := But.setCell w1 gm 5 v'
  have ho2 : w1.ownsRow 0 89 3 vw S.words.length cs := own_grown_ne h2a hg (fun k hk => fun e => own_uniq h2a h5a (by decide) hk e)
  have hci : Xc.Ws (OwnS 0 w1) S.words cs := by
    refine h3.mapIf (P := fun _ => True) (fun z l _ hzo => ?_) (fun _ _ => trivial)
    have hza := own_kept hzo hb
    exact own_grown_ne hza hg (fun k hk => fun e => own_uniq hza h5a (by decide) hk e)
  have hfr : Fr F W w1 := (Fr.of_below hb).trans (Fr.of_grown hg h7) (fun k hk => .inl hk)
  refine ⟨hgm1.cell 5, hgm1.free 5, Lib.hid ⟨fun k => F k ∨ v'.ownBlock = some k, ⟨⟨vw, v', cs, ?_, own_but ho2 hgm1 (by decide) hs, ?_, h4, ?_, fun k hk => .inl (h6 k hk), fun k hk => .inr hk, fun k hk => .inl (h8 k hk)⟩, .inl h.gm, fun k hk => ?_⟩, ⟨?_, fun k hk => ?_⟩⟩⟩
  · exact hgm1.set 5 v'
  · exact hci.mapIf (P := fun _ => True) (fun z l _ hz => own_but hz hgm1 (by decide) hs) (fun _ _ => trivial)
  · show World.ownsRow _ 0 _ 2 _ ((x, k0) :: S.opens).length (F8.opc ((x, k0) :: S.opens))
    rw [F8.opc_cons]
    exact own_but ho hgm1 (by decide) hs
  · have e : (w1.setCell ⟨gm, 5, none⟩ v').heap.size = w1.heap.size := by simp [World.setCell]
    rw [e]
    rcases hk with hk | hk
    · exact Nat.lt_of_lt_of_le (h.lt k hk) (Nat.le_trans hb.size hg.size)
    · exact own_lt' ho hk
  · exact hfr.trans (Fr.of_but hs h.gm) (fun k hk => .inl hk)
  · rcases hk with hk | hk
    · exact .inl hk
    · rcases hv k hk with e | e
      · exact .inl (h7 k e)
      · exact .inr (Nat.le_trans hb.size e)
/-- The one that waits goes. -/
theorem Xc.Mk.pop {F : Nat → Prop} {W : World} {gm : Nat} {tag : List UInt8} {S : Xc.S} {p : List UInt8 × List UInt8} {r : List (List UInt8 × List UInt8)} (h : Xc.Mk F W gm tag S) (hS : S.opens = p :: r) :
    ∃ vw gw cap, Bk W gm 82 (Xc.cells S tag vw (.slice (some ⟨gw, 0, none⟩) (r.length + 1) cap)) ∧ r.length + 1 ≤ cap ∧ cap ≤ maxLen ∧ gw < W.heap.size ∧ W.cell? ⟨gw, r.length * 2, none⟩ = some (.string ⟨p.1.toArray⟩) ∧ W.cell? ⟨gw, r.length * 2 + 1, none⟩ = some (.string ⟨p.2.toArray⟩) ∧
      Xc.To F W gm tag (Xc.shut r S) (W.setCell ⟨gm, 5, none⟩ (.slice (some ⟨gw, 0, none⟩) r.length cap)) := by
  obtain ⟨vw, vo, cs, h1, h2, h3, h4, h5, h6, h7, h8⟩ := h.obj
  rw [hS] at h5
  have h5' := h5
  obtain ⟨hlen, hrow⟩ := h5
  rcases hrow with ⟨_, h0⟩ | ⟨gw, cap, cur, rfl, _, hh, hnc, hcm, hcs, htake⟩
  · simp at h0
  rw [List.length_cons] at *
  have hbk : Bk W gw 180 cur := hh
  have hopl := F8.opc_len r
  have hcur : ∀ (j : Nat) (u : Value), (F8.opc r ++ [Value.string ⟨p.1.toArray⟩, .string ⟨p.2.toArray⟩])[j]? = some u → cur[j]? = some u := by
    intro j u hu
    rw [← F8.opc_cons] at hu
    have hj : j < (r.length + 1) * 2 := by have := (List.getElem?_eq_some_iff.1 hu).1; rw [F8.opc_len] at this; simpa using this
    rw [← htake, List.getElem?_take, if_pos hj] at hu
    simpa using hu
  have k0 : (F8.opc r ++ [Value.string ⟨p.1.toArray⟩, .string ⟨p.2.toArray⟩])[r.length * 2]? = some (.string ⟨p.1.toArray⟩) := by rw [List.getElem?_append_right (by omega), hopl]; simp
  have k1 : (F8.opc r ++ [Value.string ⟨p.1.toArray⟩, .string ⟨p.2.toArray⟩])[r.length * 2 + 1]? = some (.string ⟨p.2.toArray⟩) := by rw [List.getElem?_append_right (by omega), hopl, show r.length * 2 + 1 - r.length * 2 = 1 by omega]; rfl
  have hs := But.setCell W gm 5 (.slice (some ⟨gw, 0, none⟩) r.length cap)
  have hpop : W.ownsRow 0 180 2 (.slice (some ⟨gw, 0, none⟩) r.length cap) r.length (F8.opc r) := F8.own_pop h5' rfl
  refine ⟨vw, gw, cap, h1, hnc, hcm, hbk.lt, (hbk.cell _).trans (hcur _ _ k0), (hbk.cell _).trans (hcur _ _ k1), F, ⟨⟨vw, .slice (some ⟨gw, 0, none⟩) r.length cap, cs, h1.set 5 _, own_but h2 h1 (by decide) hs, ?_, h4, own_but hpop h1 (by decide) hs, h6, h7, h8⟩, h.gm, fun k hk => ?_⟩, Fr.of_but hs h.gm, fun k hk => .inl hk⟩
  · exact h3.mapIf (P := fun _ => True) (fun u l _ hz => own_but hz h1 (by decide) hs) (fun _ _ => trivial)
  · have := h.lt k hk; simpa [World.setCell] using this
end Go.Proofs.YtfafdkbnmfpbmaaDoor
