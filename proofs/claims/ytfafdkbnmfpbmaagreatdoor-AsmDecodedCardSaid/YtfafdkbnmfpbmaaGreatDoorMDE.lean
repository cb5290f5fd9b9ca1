/- Texts joined: AsMap, AsPass, AsDataB, AsDataW, AsDataY, AsDataO, AsDataS, AsDataP, AsDataT, AsData, AsPieces. -/
import Derived.Test.YtfafdkbnmfpbmaaGreatDoorMAB
import Derived.Test.YtfafdkbnmfpbmaaGreatDoorKitH
import Derived.Maps.OwnSet
import Derived.StringKeys
import Derived.Test.YtfafdkbnmfpbmaaGreatDoorMC
import Derived.Laws.MakeOwn
import Derived.Lib.ConvBytes
/- Layer 7: symbols by their names: a map of the call's own. -/
namespace Go.Proofs.YtfafdkbnmfpbmaaGreatDoor
open Go.RowKit Kit Go.Maps
set_option linter.unusedVariables false
set_option linter.unusedSimpArgs false

theorem As.law : Keyed Tryz.prog 9 := string_keyed Tryz.underlying9
theorem As.zeroE (w : World) : (zeroValue 23).run Tryz.prog w = .ok (.int .u32 0) w := by kernel_rfl
theorem As.look_any (sy : List (List UInt8 × Nat)) (s : List UInt8) : (sy.any fun p => p.1 == s) = (As.look sy s).isSome := by
  unfold As.look
  induction sy with
  | nil => rfl
  | cons p t ih =>
    rw [List.any_cons, List.find?_cons]
    cases h : p.1 == s
    · simpa using ih
    · rfl
theorem As.look_snoc (sy : List (List UInt8 × Nat)) (s t : List UInt8) (u : Nat) : As.look (sy ++ [(s, u)]) t = (As.look sy t).or (if s = t then some u else none) := by
  unfold As.look
  rw [List.find?_append]
  cases sy.find? (fun p => p.1 == t) with
  | some p => rfl
  | none =>
    by_cases h : s = t
    · subst h; simp
    · have : (s == t) = false := by simpa using h
      simp [this, h]
/-- The map in block b has these symbols. -/
def As.MapIs (w : World) (b : Nat) (sy : List (List UInt8 × Nat)) : Prop :=
  ∃ D : DataW Unit, w.ownsMap Tryz.prog 9 (plainElem Tryz.prog 23) b sy.length D ∧ ∀ s, has D (.string s) = (As.look sy s).isSome ∧ ∀ v, As.look sy s = some v → D.atKey (.string s) (.lit (.int .u32 0)) = .lit (.int .u32 (v : Int))
theorem As.MapIs.made (w : World) : As.MapIs (w.alloc (.map #[] 0)) w.heap.size [] := ⟨_, World.ownsMap_made w _ _ _, fun s => ⟨rfl, fun v h => by cases h⟩⟩
theorem As.MapIs.lt {w : World} {b : Nat} {sy : List (List UInt8 × Nat)} (h : As.MapIs w b sy) : b < w.heap.size := by obtain ⟨D, h, _⟩ := h; exact h.lt
theorem As.MapIs.fr {F : Nat → Prop} {w w' : World} {b : Nat} {sy : List (List UInt8 × Nat)} (h : As.MapIs w b sy) (hf : Fr F w w') (hn : ¬ F b) : As.MapIs w' b sy := by
  have hlt := h.lt
  obtain ⟨D, ⟨es, clock, hb, r⟩, hD⟩ := h
  exact ⟨D, ⟨es, clock, (hf.block b hlt hn).trans hb, r⟩, hD⟩
theorem As.MapIs.kept {w w' : World} {b : Nat} {sy : List (List UInt8 × Nat)} (h : As.MapIs w b sy) (hb : Below w.heap.size w w') : As.MapIs w' b sy := h.fr (F := fun _ => False) (Fr.of_below hb) id
theorem As.MapIs.bk_ne {w : World} {b g : Nat} {sy : List (List UInt8 × Nat)} {t : TypeId} {cs : Array Value} (h : As.MapIs w b sy) (hk : Bk w g t cs) : b ≠ g := by
  obtain ⟨D, ⟨es, clock, hb, r⟩, hD⟩ := h
  intro e
  subst e
  unfold Bk at hk
  rw [hk] at hb
  cases hb
theorem As.MapIs.own_ne {w : World} {b base n size : Nat} {e : TypeId} {v : Value} {xs : List Value} {sy : List (List UInt8 × Nat)} (h : As.MapIs w b sy) (ho : w.ownsRow base e size v n xs) : v.ownBlock ≠ some b := by
  intro hk
  rcases ho.2 with ⟨rfl, _⟩ | ⟨g, cap, cur, rfl, _, hh, _⟩
  · cases hk
  · simp [Value.ownBlock] at hk
    subst hk
    exact h.bk_ne (g := g) hh rfl
theorem wpList_look_as {w : World} {ops : Array Oper} {rest : List Oper} {o : Oper} {a : Act} {Q : Exit → Act → World → Prop}
    (hg : o.guard = none) (m x : Operand) (hop : o.op = Op.lookup 112 m x true) (b : Nat) (sy : List (List UInt8 × Nat)) (hm : a.eval m = .map (some b)) (h : As.MapIs w b sy) (s : List UInt8) (hs : s.length ≤ maxLen) (hx : a.eval x = .string ⟨s.toArray⟩)
    (hK : wpList Tryz.prog ops Q rest (a.put o.dst (.tuple #[.int .u32 (((As.look sy s).getD 0 : Nat) : Int), .bool (As.look sy s).isSome])) w) : wpList Tryz.prog ops Q (o :: rest) a w := by
  obtain ⟨D, hown, hD⟩ := h
  refine wpList_lookup_own_ok_int w hg m x _ hop 9 23 .u32 As.law Tryz.underlying112 Tryz.underlying23 (As.zeroE _) b _ D hm hown _ (.string s) hx (WideMaps.keyOf_string_mk (s := ⟨s.toArray⟩) Tryz.underlying9 (by simpa [ByteArray.size] using hs)) (fun c hat hwc => ?_)
  have hc : c = (((As.look sy s).getD 0 : Nat) : Int) := by
    cases hl : As.look sy s with
    | none =>
      have h1 := (hD s).1
      rw [hl] at h1
      rw [atKey_of_not_has h1] at hat
      injection hat with hat
      injection hat with _ hat
      exact hat.symm
    | some v =>
      have h2 := (hD s).2 v hl
      rw [h2] at hat
      injection hat with hat
      injection hat with _ hat
      exact hat.symm
  rw [hc, (hD s).1]
  exact hK
theorem wpList_store_as {w : World} {ops : Array Oper} {rest : List Oper} {o : Oper} {a : Act} {Q : Exit → Act → World → Prop}
    (hg : o.guard = none) (m x v : Operand) (hop : o.op = Op.mapUpdate 112 m x v) (b : Nat) (sy : List (List UInt8 × Nat)) (hm : a.eval m = .map (some b)) (h : As.MapIs w b sy) (hn : sy.length < maxLen) (s : List UInt8) (hs : s.length ≤ maxLen) (hnew : As.look sy s = none) (hx : a.eval x = .string ⟨s.toArray⟩)
    (u : Nat) (hu : u < 4294967296) (hv : a.eval v = .int .u32 (u : Int))
    (hK : ∀ w', As.MapIs w' b (sy ++ [(s, u)]) → w.grownBy w' (some b) → wpList Tryz.prog ops Q rest (a.put o.dst undef) w') : wpList Tryz.prog ops Q (o :: rest) a w := by
  obtain ⟨D, hown, hD⟩ := h
  have hmap := hown.isMap
  have hkl : WideAt.IsKeyLit (.string s) := trivial
  refine wpList_mapUpdate_own w hg m x v _ hop 9 23 As.law Tryz.underlying112 _ b _ D hm hown hn _ _ (.string s) hx hv (WideMaps.keyOf_string_mk (s := ⟨s.toArray⟩) Tryz.underlying9 (by simpa [ByteArray.size] using hs)) _ [] (plainElem_int Tryz.underlying23 (by simp [Lit.wf, IntKind.min, IntKind.max, IntKind.signed, IntKind.bits]; omega)) (fun w' h1 h2 => hK w' ⟨_, by rw [List.length_append]; exact h1, fun t => ?_⟩ h2)
  rw [As.look_snoc]
  by_cases e : s = t
  · subst e
    rw [hnew, if_pos rfl]
    exact ⟨has_put_same hmap hkl _, fun v hv => by injection hv with hv; rw [← hv]; exact atKey_put_same hmap hkl _ _⟩
  · rw [if_neg e, Option.or_none]
    have hne : Lit.string t ≠ Lit.string s := fun he => e (by injection he with he; exact he.symm)
    rw [has_put_other hne, atKey_put_other hne]
    exact hD t
end Go.Proofs.YtfafdkbnmfpbmaaGreatDoor
/- Layer 7: the passes' record in memory. -/
namespace Go.Proofs.YtfafdkbnmfpbmaaGreatDoor
open Go.RowKit Kit
set_option linter.unusedVariables false
set_option linter.unusedSimpArgs false

theorem As.own_but_ne {base g : Nat} {w w' : World} {e : TypeId} {v : Value} {size n : Nat} {xs : List Value} (h : w.ownsRow base e size v n xs) (hne : v.ownBlock ≠ some g) (hb : But g w w') : w'.ownsRow base e size v n xs := by
  obtain ⟨h1, h2⟩ := h
  refine ⟨h1, ?_⟩
  rcases h2 with h2 | ⟨g', cap, cur, rfl, hb', hh, rest⟩
  · exact .inl h2
  · exact .inr ⟨g', cap, cur, rfl, hb', (hb.block (Array.getElem?_eq_some_iff.1 hh).1 (fun e => hne (by simp [Value.ownBlock, e]))).trans hh, rest⟩
theorem asyt : RowTy Tryz.prog 27 110 2 24 :=
  ⟨Tryz.underlying27, by
    have h : (Tryz.prog.info? 110).map (fun i => (i.zero, i.size, i.bytes)) = some (some (.agg #[.string ByteArray.empty, .int .u32 0]), 2, 24) := by kernel_rfl
    obtain ⟨i, h1, h2, h3, h4⟩ := info_parts h
    exact ⟨i, _, h1, h2, h3, h4, by kernel_rfl⟩⟩
theorem abyt : RowTy Tryz.prog 26 5 1 1 :=
  ⟨Tryz.underlying26, by
    have h : (Tryz.prog.info? 5).map (fun i => (i.zero, i.size, i.bytes)) = some (some (.int .u8 0), 1, 1) := by kernel_rfl
    obtain ⟨i, h1, h2, h3, h4⟩ := info_parts h
    exact ⟨i, _, h1, h2, h3, h4, by kernel_rfl⟩⟩
/-- A symbol's cells. -/
def As.symC (sy : List (List UInt8 × Nat)) : List Value := sy.flatMap fun p => [.string ⟨p.1.toArray⟩, .int .u32 (p.2 : Int)]
theorem As.symC_snoc (sy : List (List UInt8 × Nat)) (p : List UInt8 × Nat) : As.symC (sy ++ [p]) = As.symC sy ++ [.string ⟨p.1.toArray⟩, .int .u32 (p.2 : Int)] := by simp [As.symC]
/-- The record in block gp: the lines, the place, the map's symbols sm, the bytes, the symbols sy. B: from there on all is its own. -/
structure As.Ms (B : Nat) (w : World) (gp : Nat) (vl : Value) (a : Nat) (bs : List UInt8) (sm sy : List (List UInt8 × Nat)) : Prop where
  obj : ∃ b vb vs, Bk w gp 114 #[vl, .int .u32 (a : Int), .map (some b), vb, vs] ∧ As.MapIs w b sm ∧ B ≤ b ∧ w.ownsRow B 5 1 vb bs.length (bv bs) ∧ w.ownsRow B 110 2 vs sy.length (As.symC sy)
  gp : B ≤ gp
  size : B ≤ w.heap.size
theorem As.Ms.kept {B : Nat} {w w' : World} {gp : Nat} {vl : Value} {a : Nat} {bs : List UInt8} {sm sy : List (List UInt8 × Nat)} (h : As.Ms B w gp vl a bs sm sy) (hb : Below w.heap.size w w') : As.Ms B w' gp vl a bs sm sy := by
  obtain ⟨b, vb, vs, h1, h2, h3, h4, h5⟩ := h.obj
  exact ⟨⟨b, vb, vs, h1.kept hb, h2.kept hb, h3, own_kept h4 hb, own_kept h5 hb⟩, h.gp, Nat.le_trans h.size hb.size⟩
/-- What the walks see. -/
structure As.MsSeen (w : World) (gp b : Nat) (vl vb vs : Value) (a : Nat) : Prop where
  c0 : w.cell? ⟨gp, 0, none⟩ = some vl
  c1 : w.cell? ⟨gp, 1, none⟩ = some (.int .u32 (a : Int))
  c2 : w.cell? ⟨gp, 2, none⟩ = some (.map (some b))
  c3 : w.cell? ⟨gp, 3, none⟩ = some vb
  c4 : w.cell? ⟨gp, 4, none⟩ = some vs
  f : ∀ i, w.frozen? ⟨gp, i, none⟩ = false
/-- The record, its parts by name. -/
structure As.MsAt (B : Nat) (w : World) (gp b : Nat) (vl vb vs : Value) (a : Nat) (bs : List UInt8) (sm sy : List (List UInt8 × Nat)) : Prop where
  bk : Bk w gp 114 #[vl, .int .u32 (a : Int), .map (some b), vb, vs]
  map : As.MapIs w b sm
  b : B ≤ b
  by_ : w.ownsRow B 5 1 vb bs.length (bv bs)
  sy : w.ownsRow B 110 2 vs sy.length (As.symC sy)
  gp : B ≤ gp
  size : B ≤ w.heap.size
section
variable {B : Nat} {w w' : World} {gp b : Nat} {vl vb vs : Value} {a : Nat} {bs : List UInt8} {sm sy : List (List UInt8 × Nat)}
theorem As.Ms.at (h : As.Ms B w gp vl a bs sm sy) : ∃ b vb vs, As.MsAt B w gp b vl vb vs a bs sm sy := by
  obtain ⟨b, vb, vs, h1, h2, h3, h4, h5⟩ := h.obj
  exact ⟨b, vb, vs, h1, h2, h3, h4, h5, h.gp, h.size⟩
theorem As.MsAt.ms (h : As.MsAt B w gp b vl vb vs a bs sm sy) : As.Ms B w gp vl a bs sm sy := ⟨⟨b, vb, vs, h.bk, h.map, h.b, h.by_, h.sy⟩, h.gp, h.size⟩
theorem As.MsAt.kept (h : As.MsAt B w gp b vl vb vs a bs sm sy) (hb : Below w.heap.size w w') : As.MsAt B w' gp b vl vb vs a bs sm sy :=
  ⟨h.bk.kept hb, h.map.kept hb, h.b, own_kept h.by_ hb, own_kept h.sy hb, h.gp, Nat.le_trans h.size hb.size⟩
theorem As.MsAt.seen (h : As.MsAt B w gp b vl vb vs a bs sm sy) : As.MsSeen w gp b vl vb vs a := ⟨h.bk.cell 0, h.bk.cell 1, h.bk.cell 2, h.bk.cell 3, h.bk.cell 4, fun i => h.bk.free i⟩
/-- The map has changed. -/
theorem As.MsAt.mapped (h : As.MsAt B w gp b vl vb vs a bs sm sy) {sm' : List (List UInt8 × Nat)} (hm : As.MapIs w' b sm') (hg : w.grownBy w' (some b)) : As.MsAt B w' gp b vl vb vs a bs sm' sy ∧ Fr (fun k => k = b) w w' := by
  have hbut : But b w w' := hg
  exact ⟨⟨hbut.bk h.bk (fun e => h.map.bk_ne h.bk e.symm), hm, h.b, As.own_but_ne h.by_ (h.map.own_ne h.by_) hbut, As.own_but_ne h.sy (h.map.own_ne h.sy) hbut, h.gp, Nat.le_trans h.size hbut.size⟩, Fr.of_but hbut rfl⟩
/-- A symbol more: what a drawn region with an append of one meets. -/
theorem As.MsAt.symroom (h : As.MsAt B w gp b vl vb vs a bs sm sy) (p : List UInt8 × Nat) :
    ∃ A c, vs = .slice A sy.length c ∧ (∀ W', Below w.heap.size w W' → W'.cell? ⟨gp, 4, none⟩ = some (.slice A sy.length c)) ∧
      (w.alloc (.cells #[.string ⟨p.1.toArray⟩, .int .u32 (p.2 : Int)] 110)).ownsRow B 110 2 (.slice A sy.length c) sy.length (As.symC sy) ∧
      Src Tryz.prog 2 27 (.slice (some ⟨w.heap.size, 0, none⟩) 1 1) 1 [.string ⟨p.1.toArray⟩, .int .u32 (p.2 : Int)] (w.alloc (.cells #[.string ⟨p.1.toArray⟩, .int .u32 (p.2 : Int)] 110)) ∧
      B ≤ (w.alloc (.cells #[.string ⟨p.1.toArray⟩, .int .u32 (p.2 : Int)] 110)).heap.size ∧
      ∀ v' w', w'.ownsRow B 110 2 v' (sy.length + 1) (As.symC sy ++ [.string ⟨p.1.toArray⟩, .int .u32 (p.2 : Int)]) → (w.alloc (.cells #[.string ⟨p.1.toArray⟩, .int .u32 (p.2 : Int)] 110)).grownBy w' (Value.slice A sy.length c).ownBlock →
        (∃ A' c', v' = .slice A' (sy.length + 1) c') ∧ w'.cell? ⟨gp, 4, none⟩ = some (.slice A sy.length c) ∧ w'.frozen? ⟨gp, 4, none⟩ = false ∧ Hid (As.MsAt B (w'.setCell ⟨gp, 4, none⟩ v') gp b vl vb v' a bs sm (sy ++ [p]) ∧ Below B w (w'.setCell ⟨gp, 4, none⟩ v') ∧ ∀ g t cs, Bk w g t cs → t ≠ 114 → t ≠ 110 → Bk (w'.setCell ⟨gp, 4, none⟩ v') g t cs) := by
  obtain ⟨A, c, rfl⟩ := (Rd.of_own h.sy).form
  have hal : Below w.heap.size w (w.alloc (.cells #[.string ⟨p.1.toArray⟩, .int .u32 (p.2 : Int)] 110)) := (Below.refl _ _).alloc (Nat.le_refl _) _
  have ha := h.kept hal
  refine ⟨A, c, rfl, fun W' hb' => (h.bk.kept hb').cell 4, ha.sy, ?_, ha.size, fun v' w' ho hg => ?_⟩
  · have hn := Rd.built (size := 2) (Bk.fresh w 110 #[.string ⟨p.1.toArray⟩, .int .u32 (p.2 : Int)]) rfl
    have := Rd.src asyt (by simpa using hn) (by simp [Value.oneCell'])
    simpa using this
  · have hr : ∀ k, some k = (Value.slice A sy.length c).ownBlock → B ≤ k := fun k hk => by
      rcases h.sy.2 with ⟨e, _⟩ | ⟨g, cap, cur, e, hB, _⟩
      · rw [e] at hk; cases hk
      · rw [e] at hk; simp [Value.ownBlock] at hk; subst hk; exact hB
    have hgk : Bk w' gp 114 _ := (hg.block gp ha.bk.lt (fun e => own_bk_ne ha.sy ha.bk (by decide) e.symm)).trans ha.bk
    have hs := But.setCell w' gp 4 v'
    have hmb : As.MapIs w' b sm := ha.map.fr (F := fun k => some k = (Value.slice A sy.length c).ownBlock) (Fr.of_grown hg (fun k e => e.symm)) (fun e => ha.map.own_ne ha.sy e.symm)
    have hby : w'.ownsRow B 5 1 vb bs.length (bv bs) := (Fr.of_grown (F := fun k => some k = (Value.slice A sy.length c).ownBlock) hg (fun k e => e.symm)).own ha.by_ (fun k hk e => own_uniq ha.by_ ha.sy (by decide) hk e.symm)
    have hbk' := hgk.set 4 v'
    refine ⟨(Rd.of_own ho).form, hgk.cell 4, hgk.free 4, Lib.hid ⟨⟨by simpa using hbk', hmb.fr (F := fun k => k = gp) (Fr.of_but hs rfl) (fun e => hmb.bk_ne hgk e), h.b, own_but hby hgk (by decide) hs, ?_, h.gp, ?_⟩, ?_, fun g t cs hg1 t1 t2 => ?_⟩⟩
    · rw [As.symC_snoc, List.length_append]
      exact own_but ho hgk (by decide) hs
    · have e : (w'.setCell ⟨gp, 4, none⟩ v').heap.size = w'.heap.size := by simp [World.setCell]
      rw [e]; exact Nat.le_trans ha.size hg.size
    rotate_left
    · have h1 := hg1.kept hal
      have h2 : Bk w' g t cs := (hg.block g h1.lt (fun e => own_bk_ne ha.sy h1 t2 e.symm)).trans h1
      exact hs.bk h2 (h2.ne hgk t1)
    · exact ((hal.mono h.size).trans ((Fr.of_grown (F := fun k => some k = (Value.slice A sy.length c).ownBlock) hg (fun k e => e.symm)).below (fun k hk => hr k hk) ha.size)).trans ((Fr.of_but (F := fun k => k = gp) hs rfl).below (fun k hk => by rw [hk]; exact h.gp) (Nat.le_trans ha.size hg.size))
/-- Bytes more: what an append of them meets. W: where the bytes are read. -/
theorem As.MsAt.byteroom (h : As.MsAt B w gp b vl vb vs a bs sm sy) {W : World} (hal : Below w.heap.size w W) (news : List UInt8) :
    ∃ A c, vb = .slice A bs.length c ∧ W.ownsRow B 5 1 (.slice A bs.length c) bs.length (bv bs) ∧ B ≤ W.heap.size ∧
      ∀ v' w', w'.ownsRow B 5 1 v' (bs.length + news.length) (bv bs ++ bv news) → W.grownBy w' (Value.slice A bs.length c).ownBlock → F8.Where (Value.slice A bs.length c) v' W.heap.size →
        (∃ A' c', v' = .slice A' (bs.length + news.length) c') ∧ w'.cell? ⟨gp, 3, none⟩ = some (.slice A bs.length c) ∧ w'.frozen? ⟨gp, 3, none⟩ = false ∧ Hid (As.MsAt B (w'.setCell ⟨gp, 3, none⟩ v') gp b vl v' vs a (bs ++ news) sm sy ∧ Fr (fun k => k = gp ∨ vb.ownBlock = some k) w (w'.setCell ⟨gp, 3, none⟩ v') ∧ (∀ k, v'.ownBlock = some k → vb.ownBlock = some k ∨ w.heap.size ≤ k) ∧ Below B w (w'.setCell ⟨gp, 3, none⟩ v')) := by
  obtain ⟨A, c, rfl⟩ := (Rd.of_own h.by_).form
  have ha := h.kept hal
  refine ⟨A, c, rfl, ha.by_, ha.size, fun v' w' ho hg hv => ?_⟩
  have hr : ∀ k, (Value.slice A bs.length c).ownBlock = some k → B ≤ k := fun k hk => by
    rcases h.by_.2 with ⟨e, _⟩ | ⟨g, cap, cur, e, hB, _⟩
    · rw [e] at hk; cases hk
    · rw [e] at hk; simp [Value.ownBlock] at hk; subst hk; exact hB
  have hgk : Bk w' gp 114 _ := (hg.block gp ha.bk.lt (fun e => own_bk_ne ha.by_ ha.bk (by decide) e.symm)).trans ha.bk
  have hs := But.setCell w' gp 3 v'
  have f1 : Fr (fun k => (Value.slice A bs.length c).ownBlock = some k) W w' := Fr.of_grown hg (fun k e => e)
  have hmb : As.MapIs w' b sm := ha.map.fr f1 (fun e => ha.map.own_ne ha.by_ e)
  have hsy : w'.ownsRow B 110 2 vs sy.length (As.symC sy) := f1.own ha.sy (fun k hk e => own_uniq ha.sy ha.by_ (by decide) hk e)
  have hbk' := hgk.set 3 v'
  have f2 : Fr (fun k => k = gp) w' (w'.setCell ⟨gp, 3, none⟩ v') := Fr.of_but hs rfl
  have hfr : Fr (fun k => k = gp ∨ (Value.slice A bs.length c).ownBlock = some k) w (w'.setCell ⟨gp, 3, none⟩ v') := ((Fr.of_below hal).trans (f1.mono fun k e => .inr e) (fun k e => .inl e)).trans f2 (fun k e => .inl (.inl e))
  refine ⟨(Rd.of_own ho).form, hgk.cell 3, hgk.free 3, Lib.hid ⟨⟨by simpa using hbk', hmb.fr f2 (fun e => hmb.bk_ne hgk e), h.b, ?_, own_but hsy hgk (by decide) hs, h.gp, ?_⟩, hfr, fun k hk => (hv k hk).imp id (fun e => Nat.le_trans hal.size e), ?_⟩⟩
  · rw [bv_append, List.length_append]
    exact own_but ho hgk (by decide) hs
  · have e : (w'.setCell ⟨gp, 3, none⟩ v').heap.size = w'.heap.size := by simp [World.setCell]
    rw [e]; exact Nat.le_trans ha.size hg.size
  · exact hfr.below (fun k hk => hk.elim (fun e => e ▸ h.gp) (hr k)) h.size
end
end Go.Proofs.YtfafdkbnmfpbmaaGreatDoor
/- Layer 7: bytes: what the walks need. -/
namespace Go.Proofs.YtfafdkbnmfpbmaaGreatDoor
open Go.RowKit Kit
set_option linter.unusedVariables false
set_option linter.unusedSimpArgs false

/-- Fresh bytes. -/
theorem As.Rb.fresh {F : Nat → Prop} {w : World} {gx : Nat} {x : As.L} (h : As.Mk F w gx x) (b : List UInt8) (hb : b.length ≤ maxLen) :
    As.Rb F (w.alloc (.cells (bv b).toArray 5)) (.slice (some ⟨w.heap.size, 0, none⟩) b.length b.length) b ∧ As.Hi gx (.slice (some ⟨w.heap.size, 0, none⟩) b.length b.length) := by
  have hbk := Bk.fresh w 5 (bv b).toArray
  refine ⟨⟨⟨by rw [bv_length, Nat.mul_one], some ⟨w.heap.size, 0, none⟩, b.length, rfl, Nat.le_refl _, hb, fun _ => ⟨_, 0, rfl, hbk.lt, fun j u hu => ?_⟩⟩, fun g off n c e hn hg => ?_⟩, fun g off n c e hn => ?_⟩
  · rw [Nat.zero_add, hbk.cell j]; simpa using hu
  · injection e with e _ _
    injection e with e
    injection e with e _
    have := h.lt g hg
    omega
  · injection e with e _ _
    injection e with e
    injection e with e _
    have := h.lt gx h.gx
    omega
theorem As.four_int {F : Nat → Prop} {w : World} {gx : Nat} {x : As.L} (h : As.Mk F w gx x) (n : Int) (hn : 0 ≤ n) (hn2 : n < 4294967296) :
    Calls Tryz.prog 168 #[.int .u32 n] w fun e w' => ∃ g, e = .returned (.slice (some ⟨g, 0, none⟩) 4 4) ∧ As.Rb F w' (.slice (some ⟨g, 0, none⟩) 4 4) (As.four n.toNat) ∧ As.Hi gx (.slice (some ⟨g, 0, none⟩) 4 4) ∧ Below w.heap.size w w' := by
  have hc := afour_any n.toNat w (by omega)
  rw [show ((n.toNat : Nat) : Int) = n by omega] at hc
  refine hc.mono ?_
  rintro e w' ⟨rfl, rfl⟩
  have hr := As.Rb.fresh h (As.four n.toNat) (by unfold maxLen; simp [As.four])
  exact ⟨_, rfl, hr.1, hr.2, (Below.refl _ _).alloc (Nat.le_refl _) _⟩
/-- How much is left to do. -/
def As.meas (gx : Nat) (f : Value) (wr : World) : Nat := (match f with | .bool true => 1 | _ => 0) + (match wr.cell? ⟨gx, 0, none⟩ with | some (.slice _ n _) => n | _ => 0)
theorem As.meas_is {G : Nat → Prop} {W : World} {gx : Nat} {y : As.L} (h : As.Mk G W gx y) (b : Bool) : As.meas gx (.bool b) W = (if b = true then 1 else 0) + y.l.length := by
  obtain ⟨vl, hs⟩ := h.seen
  obtain ⟨A, c, rfl⟩ := Rd.form hs.rd
  unfold As.meas
  rw [hs.c0]
  cases b <;> rfl
/-- Where a loop stands. -/
def As.Now (f : As.L → As.L) (x : As.L) (b : Bool) (y : As.L) : Prop := if b = true then y = x else As.more f y = As.loop f (x.l.length + 1) x
/-- There is a round more. -/
def As.B1 (b : Bool) (y : As.L) : Prop := b = true ∨ y.l ≠ []
theorem As.Now.next {f : As.L → As.L} (hf : ∀ x, (f x).l = x.l.tail) {x : As.L} {b : Bool} {y : As.L} (h : As.Now f x b y) (hb : As.B1 b y) : As.Now f x false (f y) := by
  unfold As.Now at h ⊢
  unfold As.B1 at hb
  rw [if_neg (by decide)]
  cases b
  · rw [if_neg (by decide)] at h
    rcases hb with hb | hb
    · cases hb
    · rw [← As.more_some hf hb]; exact h
  · rw [if_pos rfl] at h
    subst h
    exact (As.loop_more hf _).symm
theorem As.Now.done {f : As.L → As.L} {x y : As.L} (h : As.Now f x false y) (hy : y.l = []) : y = As.loop f (x.l.length + 1) x := by
  unfold As.Now at h
  rw [if_neg (by decide), As.more_nil hy] at h
  exact h
end Go.Proofs.YtfafdkbnmfpbmaaGreatDoor
/- Layer 7: bytes: word. -/
namespace Go.Proofs.YtfafdkbnmfpbmaaGreatDoor
open Go.RowKit Kit
set_option linter.unusedVariables false
set_option linter.unusedSimpArgs false

set_option maxRecDepth 100000 in
set_option maxHeartbeats 8000000 in
theorem adata_word {F : Nat → Prop} {w : World} {gx : Nat} {x : As.L} (h : As.Mk F w gx x) (hT : As.Tb F w) (hsh : As.Short x.l) (hl : x.p.length + x.l.length ≤ 700000000) (a : Nat) (ha : a < 4294967296) :
    Calls Tryz.prog 166 #[.pointer (some ⟨gx, 0, none⟩), .string ⟨#[119, 111, 114, 100]⟩, .int .u32 (a : Int)] w (As.OptPost F w gx (As.data As.tWord a x)) := by
  have HP := Lib.hid (show As.data As.tWord a x = some (As.loop As.word1 (x.l.length + 1) x) from by unfold As.data; rw [if_pos rfl])
  have HM0 := Lib.hid h
  have HT0 := Lib.hid hT
  have HS0 := Lib.hid hsh
  have HL := Lib.hid hl
  have HR := Lib.hid (fun y => As.num_range y)
  clear h hT hsh hl
  rw [HP.out]
  clear HP
  go_enter Tryz.func166, Tryz.ntmps166
  go_wp2_with fail
  go_loopw [7] (fun f wr => ∃ (b : Bool) (y : As.L) (G : Nat → Prop), f = .bool b ∧ As.Mk G wr gx y ∧ As.Tb G wr ∧ As.Short y.l ∧ Step F w G wr ∧ y.p.length + y.l.length ≤ x.p.length + x.l.length + (if b = true then 0 else 1) ∧ As.Now As.word1 x b y) (fun f wr => As.meas gx f wr)
  case atStart => exact ⟨true, x, F, rfl, HM0.out, HT0.out, HS0.out, Step.refl _ _, Nat.le_refl _, by unfold As.Now; rw [if_pos rfl]⟩
  case round =>
    obtain ⟨b, y, G, rfl, hm, hT, hsh, hst, hlen, hnow⟩ := hrel
    have HM := Lib.hid hm
    have HT := Lib.hid hT
    have HS := Lib.hid hsh
    have HST := Lib.hid hst
    have HN := Lib.hid hnow
    have HLN := Lib.hid (show y.p.length ≤ 900000000 ∧ (As.B1 b y → y.p.length + 1 + y.l.tail.length ≤ x.p.length + x.l.length + 1) from by
      have := HL.out
      refine ⟨by split at hlen <;> omega, fun hb => ?_⟩
      rw [List.length_tail]
      unfold As.B1 at hb
      rcases hb with hb | hb
      · subst hb; rw [if_pos rfl] at hlen; omega
      · have := List.length_pos_iff.2 hb; split at hlen <;> omega)
    obtain ⟨vl, hs⟩ := hm.seen
    have c0 := hs.c0
    obtain ⟨A0, cc0, rfl⟩ := Rd.form hs.rd
    clear hm hT hsh hst hnow hlen hs
    cases b
    · by_cases hy : y.l = []
      · have HY := Lib.hid (HN.out.done hy)
        have hy0 : (y.l.length : Int) = 0 := by rw [hy]; rfl
        clear hy
        generalize y.l.length = ny at *
        obtain rfl : ny = 0 := by omega
        go_wp2_with fail
        go_ret
        rw [← HY.out]
        exact ⟨rfl, G, HM.out, HST.out⟩
      · have HB := Lib.hid (show As.B1 false y from .inr hy)
        have hpos : (0 : Int) < (y.l.length : Int) := by have := List.length_pos_iff.2 hy; omega
        have HMS := Lib.hid (show y.l.tail.length < As.meas gx (.bool false) wr from by rw [As.meas_is HM.out false, List.length_tail]; have := List.length_pos_iff.2 hy; simp; omega)
        clear hy
        generalize y.l.length = ny at c0 hpos
        go_wp2_with fail
        go_at_call 240
        refine (aeither_any HM.out HT.out HS.out).mono ?_
        rintro e w1 ⟨rfl, g1⟩
        have HG1 := Lib.hid g1
        have HS1 := Lib.hid HS.out.either
        have HE1 := Lib.hid (As.either_l y)
        have HE2 := Lib.hid (As.either_len y)
        have HW := Lib.hid (show As.word1 y = As.put ⟨false, As.no, As.four (As.bits (As.either y).1.1), if (As.either y).1.2 = [] then 0 else 4, (As.either y).1.2, []⟩ (As.either y).2 from rfl)
        clear g1
        generalize As.either y = E at *
        obtain ⟨⟨n, nm⟩, y1⟩ := E
        dsimp only at HG1 HS1 HE1 HE2 HW ⊢
        have hbits : 0 ≤ n % 4294967296 ∧ n % 4294967296 < 4294967296 ∧ (n % 4294967296).toNat = As.bits n := ⟨by omega, by omega, rfl⟩
        have HBT := Lib.hid hbits
        clear hbits
        by_cases hnm : nm = []
        · subst hnm
          have HV := Lib.hid (show As.word1 y = As.put ⟨false, As.no, As.four (As.bits n), 0, [], []⟩ y1 from by rw [HW.out, if_pos rfl])
          go_wp2_with fail
          go_at_call 168
          refine (As.four_int HG1.out.1 _ HBT.out.1 HBT.out.2.1).mono ?_
          rintro e w2 ⟨g, rfl, r2, i2, b2⟩
          have HR2 := Lib.hid (show As.Rb G w2 _ (As.four (As.bits n)) from by rw [← HBT.out.2.2]; exact r2)
          have HI2 := Lib.hid i2
          have HB2 := Lib.hid b2
          clear r2 i2 b2
          go_wp2_with fail
          go_at_call 241
          refine (aput_any (HG1.out.1.kept HB2.out) ⟨false, As.no, As.four (As.bits n), 0, [], []⟩ (.slice (some ⟨g, 0, none⟩) 4 4) HR2.out HI2.out (by rw [HE2.out]; have := HLN.out.1; omega)).mono ?_
          rintro e w3 ⟨rfl, G3, m3, s3⟩
          have hst3 := ((HST.out.trans ⟨HG1.out.2.mono (fun k e => e ▸ HM.out.gx), fun k hk => .inl hk⟩).trans (Step.of_below HB2.out)).trans s3
          have htb3 : As.Tb G3 w3 := (((HT.out.go HM.out.gx HG1.out.2).kept HB2.out)).step s3
          have hnx := HN.out.next As.word1_l HB.out
          have hl3 : (As.word1 y).l = y.l.tail := As.word1_l y
          have hp3 : (As.word1 y).p.length = y.p.length + 1 := by rw [HV.out, As.put_len, HE2.out]
          rw [← HV.out] at m3
          have HM3 := Lib.hid m3
          have HST3 := Lib.hid hst3
          have HTB3 := Lib.hid htb3
          have HNX := Lib.hid hnx
          have HL3 := Lib.hid hl3
          have HP3 := Lib.hid hp3
          have HS3 := Lib.hid (show As.Short (As.word1 y).l from by rw [hl3, ← HE1.out]; exact HS1.out)
          clear m3 s3 hst3 htb3 hnx hl3 hp3
          go_wp2_with fail
          go_roundw
          case rel => exact ⟨false, As.word1 y, G3, rfl, HM3.out, HTB3.out, HS3.out, HST3.out, by rw [HP3.out, HL3.out, if_neg (by decide)]; exact HLN.out.2 HB.out, HNX.out⟩
          case measure => have e := As.meas_is HM3.out false; rw [HL3.out, if_neg (by decide), Nat.zero_add] at e; rw [e]; exact HMS.out
        · have hne : (nm != ([] : List UInt8)) = true := by simpa using hnm
          have hne2 : (!nm == ([] : List UInt8)) = true := by simpa using hnm
          have he2 : nm.isEmpty = false := by simpa using hnm
          have HV := Lib.hid (show As.word1 y = As.put ⟨false, As.no, As.four (As.bits n), 4, nm, []⟩ y1 from by rw [HW.out, if_neg hnm])
          clear hnm
          go_wp2_with fail
          go_at_call 168
          refine (As.four_int HG1.out.1 _ HBT.out.1 HBT.out.2.1).mono ?_
          rintro e w2 ⟨g, rfl, r2, i2, b2⟩
          have HR2 := Lib.hid (show As.Rb G w2 _ (As.four (As.bits n)) from by rw [← HBT.out.2.2]; exact r2)
          have HI2 := Lib.hid i2
          have HB2 := Lib.hid b2
          clear r2 i2 b2
          go_wp2_with fail
          go_at_call 241
          refine (aput_any (HG1.out.1.kept HB2.out) ⟨false, As.no, As.four (As.bits n), 4, nm, []⟩ (.slice (some ⟨g, 0, none⟩) 4 4) HR2.out HI2.out (by rw [HE2.out]; have := HLN.out.1; omega)).mono ?_
          rintro e w3 ⟨rfl, G3, m3, s3⟩
          have hst3 := ((HST.out.trans ⟨HG1.out.2.mono (fun k e => e ▸ HM.out.gx), fun k hk => .inl hk⟩).trans (Step.of_below HB2.out)).trans s3
          have htb3 : As.Tb G3 w3 := (((HT.out.go HM.out.gx HG1.out.2).kept HB2.out)).step s3
          have hnx := HN.out.next As.word1_l HB.out
          have hl3 : (As.word1 y).l = y.l.tail := As.word1_l y
          have hp3 : (As.word1 y).p.length = y.p.length + 1 := by rw [HV.out, As.put_len, HE2.out]
          rw [← HV.out] at m3
          have HM3 := Lib.hid m3
          have HST3 := Lib.hid hst3
          have HTB3 := Lib.hid htb3
          have HNX := Lib.hid hnx
          have HL3 := Lib.hid hl3
          have HP3 := Lib.hid hp3
          have HS3 := Lib.hid (show As.Short (As.word1 y).l from by rw [hl3, ← HE1.out]; exact HS1.out)
          clear m3 s3 hst3 htb3 hnx hl3 hp3
          go_wp2_with fail
          go_roundw
          case rel => exact ⟨false, As.word1 y, G3, rfl, HM3.out, HTB3.out, HS3.out, HST3.out, by rw [HP3.out, HL3.out, if_neg (by decide)]; exact HLN.out.2 HB.out, HNX.out⟩
          case measure => have e := As.meas_is HM3.out false; rw [HL3.out, if_neg (by decide), Nat.zero_add] at e; rw [e]; exact HMS.out
    · have HB := Lib.hid (show As.B1 true y from .inl rfl)
      have HMS := Lib.hid (show y.l.tail.length < As.meas gx (.bool true) wr from by rw [As.meas_is HM.out true, List.length_tail]; simp; omega)
      clear c0
      go_wp2_with fail
      go_at_call 240
      refine (aeither_any HM.out HT.out HS.out).mono ?_
      rintro e w1 ⟨rfl, g1⟩
      have HG1 := Lib.hid g1
      have HS1 := Lib.hid HS.out.either
      have HE1 := Lib.hid (As.either_l y)
      have HE2 := Lib.hid (As.either_len y)
      have HW := Lib.hid (show As.word1 y = As.put ⟨false, As.no, As.four (As.bits (As.either y).1.1), if (As.either y).1.2 = [] then 0 else 4, (As.either y).1.2, []⟩ (As.either y).2 from rfl)
      clear g1
      generalize As.either y = E at *
      obtain ⟨⟨n, nm⟩, y1⟩ := E
      dsimp only at HG1 HS1 HE1 HE2 HW ⊢
      have hbits : 0 ≤ n % 4294967296 ∧ n % 4294967296 < 4294967296 ∧ (n % 4294967296).toNat = As.bits n := ⟨by omega, by omega, rfl⟩
      have HBT := Lib.hid hbits
      clear hbits
      by_cases hnm : nm = []
      · subst hnm
        have HV := Lib.hid (show As.word1 y = As.put ⟨false, As.no, As.four (As.bits n), 0, [], []⟩ y1 from by rw [HW.out, if_pos rfl])
        go_wp2_with fail
        go_at_call 168
        refine (As.four_int HG1.out.1 _ HBT.out.1 HBT.out.2.1).mono ?_
        rintro e w2 ⟨g, rfl, r2, i2, b2⟩
        have HR2 := Lib.hid (show As.Rb G w2 _ (As.four (As.bits n)) from by rw [← HBT.out.2.2]; exact r2)
        have HI2 := Lib.hid i2
        have HB2 := Lib.hid b2
        clear r2 i2 b2
        go_wp2_with fail
        go_at_call 241
        refine (aput_any (HG1.out.1.kept HB2.out) ⟨false, As.no, As.four (As.bits n), 0, [], []⟩ (.slice (some ⟨g, 0, none⟩) 4 4) HR2.out HI2.out (by rw [HE2.out]; have := HLN.out.1; omega)).mono ?_
        rintro e w3 ⟨rfl, G3, m3, s3⟩
        have hst3 := ((HST.out.trans ⟨HG1.out.2.mono (fun k e => e ▸ HM.out.gx), fun k hk => .inl hk⟩).trans (Step.of_below HB2.out)).trans s3
        have htb3 : As.Tb G3 w3 := (((HT.out.go HM.out.gx HG1.out.2).kept HB2.out)).step s3
        have hnx := HN.out.next As.word1_l HB.out
        have hl3 : (As.word1 y).l = y.l.tail := As.word1_l y
        have hp3 : (As.word1 y).p.length = y.p.length + 1 := by rw [HV.out, As.put_len, HE2.out]
        rw [← HV.out] at m3
        have HM3 := Lib.hid m3
        have HST3 := Lib.hid hst3
        have HTB3 := Lib.hid htb3
        have HNX := Lib.hid hnx
        have HL3 := Lib.hid hl3
        have HP3 := Lib.hid hp3
        have HS3 := Lib.hid (show As.Short (As.word1 y).l from by rw [hl3, ← HE1.out]; exact HS1.out)
        clear m3 s3 hst3 htb3 hnx hl3 hp3
        go_wp2_with fail
        go_roundw
        case rel => exact ⟨false, As.word1 y, G3, rfl, HM3.out, HTB3.out, HS3.out, HST3.out, by rw [HP3.out, HL3.out, if_neg (by decide)]; exact HLN.out.2 HB.out, HNX.out⟩
        case measure => have e := As.meas_is HM3.out false; rw [HL3.out, if_neg (by decide), Nat.zero_add] at e; rw [e]; exact HMS.out
      · have hne : (nm != ([] : List UInt8)) = true := by simpa using hnm
        have hne2 : (!nm == ([] : List UInt8)) = true := by simpa using hnm
        have he2 : nm.isEmpty = false := by simpa using hnm
        have HV := Lib.hid (show As.word1 y = As.put ⟨false, As.no, As.four (As.bits n), 4, nm, []⟩ y1 from by rw [HW.out, if_neg hnm])
        clear hnm
        go_wp2_with fail
        go_at_call 168
        refine (As.four_int HG1.out.1 _ HBT.out.1 HBT.out.2.1).mono ?_
        rintro e w2 ⟨g, rfl, r2, i2, b2⟩
        have HR2 := Lib.hid (show As.Rb G w2 _ (As.four (As.bits n)) from by rw [← HBT.out.2.2]; exact r2)
        have HI2 := Lib.hid i2
        have HB2 := Lib.hid b2
        clear r2 i2 b2
        go_wp2_with fail
        go_at_call 241
        refine (aput_any (HG1.out.1.kept HB2.out) ⟨false, As.no, As.four (As.bits n), 4, nm, []⟩ (.slice (some ⟨g, 0, none⟩) 4 4) HR2.out HI2.out (by rw [HE2.out]; have := HLN.out.1; omega)).mono ?_
        rintro e w3 ⟨rfl, G3, m3, s3⟩
        have hst3 := ((HST.out.trans ⟨HG1.out.2.mono (fun k e => e ▸ HM.out.gx), fun k hk => .inl hk⟩).trans (Step.of_below HB2.out)).trans s3
        have htb3 : As.Tb G3 w3 := (((HT.out.go HM.out.gx HG1.out.2).kept HB2.out)).step s3
        have hnx := HN.out.next As.word1_l HB.out
        have hl3 : (As.word1 y).l = y.l.tail := As.word1_l y
        have hp3 : (As.word1 y).p.length = y.p.length + 1 := by rw [HV.out, As.put_len, HE2.out]
        rw [← HV.out] at m3
        have HM3 := Lib.hid m3
        have HST3 := Lib.hid hst3
        have HTB3 := Lib.hid htb3
        have HNX := Lib.hid hnx
        have HL3 := Lib.hid hl3
        have HP3 := Lib.hid hp3
        have HS3 := Lib.hid (show As.Short (As.word1 y).l from by rw [hl3, ← HE1.out]; exact HS1.out)
        clear m3 s3 hst3 htb3 hnx hl3 hp3
        go_wp2_with fail
        go_roundw
        case rel => exact ⟨false, As.word1 y, G3, rfl, HM3.out, HTB3.out, HS3.out, HST3.out, by rw [HP3.out, HL3.out, if_neg (by decide)]; exact HLN.out.2 HB.out, HNX.out⟩
        case measure => have e := As.meas_is HM3.out false; rw [HL3.out, if_neg (by decide), Nat.zero_add] at e; rw [e]; exact HMS.out
end Go.Proofs.YtfafdkbnmfpbmaaGreatDoor
/- Layer 7: bytes: byte. -/
namespace Go.Proofs.YtfafdkbnmfpbmaaGreatDoor
open Go.RowKit Kit
set_option linter.unusedVariables false
set_option linter.unusedSimpArgs false

set_option maxRecDepth 100000 in
set_option maxHeartbeats 8000000 in
theorem adata_byte {F : Nat → Prop} {w : World} {gx : Nat} {x : As.L} (h : As.Mk F w gx x) (hT : As.Tb F w) (hsh : As.Short x.l) (hl : x.p.length + x.l.length ≤ 700000000) (a : Nat) (ha : a < 4294967296) :
    Calls Tryz.prog 166 #[.pointer (some ⟨gx, 0, none⟩), .string ⟨#[98, 121, 116, 101]⟩, .int .u32 (a : Int)] w (As.OptPost F w gx (As.data As.tByte a x)) := by
  have HP := Lib.hid (show As.data As.tByte a x = some (As.loop As.byte1 (x.l.length + 1) x) from by unfold As.data; rw [if_neg (by decide), if_pos rfl])
  have HM0 := Lib.hid h
  have HT0 := Lib.hid hT
  have HS0 := Lib.hid hsh
  have HL := Lib.hid hl
  have HR := Lib.hid (fun y => As.num_range y)
  clear h hT hsh hl
  rw [HP.out]
  clear HP
  go_enter Tryz.func166, Tryz.ntmps166
  go_wp2_with fail
  go_loopw [11] (fun f wr => ∃ (b : Bool) (y : As.L) (G : Nat → Prop), f = .bool b ∧ As.Mk G wr gx y ∧ As.Tb G wr ∧ As.Short y.l ∧ Step F w G wr ∧ y.p.length + y.l.length ≤ x.p.length + x.l.length + (if b = true then 0 else 1) ∧ As.Now As.byte1 x b y) (fun f wr => As.meas gx f wr)
  case atStart => exact ⟨true, x, F, rfl, HM0.out, HT0.out, HS0.out, Step.refl _ _, Nat.le_refl _, by unfold As.Now; rw [if_pos rfl]⟩
  case round =>
    obtain ⟨b, y, G, rfl, hm, hT, hsh, hst, hlen, hnow⟩ := hrel
    have HM := Lib.hid hm
    have HT := Lib.hid hT
    have HS := Lib.hid hsh
    have HST := Lib.hid hst
    have HN := Lib.hid hnow
    have HLN := Lib.hid (show y.p.length ≤ 900000000 ∧ (As.B1 b y → y.p.length + 1 + y.l.tail.length ≤ x.p.length + x.l.length + 1) from by
      have := HL.out
      refine ⟨by split at hlen <;> omega, fun hb => ?_⟩
      rw [List.length_tail]
      unfold As.B1 at hb
      rcases hb with hb | hb
      · subst hb; rw [if_pos rfl] at hlen; omega
      · have := List.length_pos_iff.2 hb; split at hlen <;> omega)
    obtain ⟨vl, hs⟩ := hm.seen
    have c0 := hs.c0
    obtain ⟨A0, cc0, rfl⟩ := Rd.form hs.rd
    clear hm hT hsh hst hnow hlen hs
    cases b
    · by_cases hy : y.l = []
      · have HY := Lib.hid (HN.out.done hy)
        have hy0 : (y.l.length : Int) = 0 := by rw [hy]; rfl
        clear hy
        generalize y.l.length = ny at *
        obtain rfl : ny = 0 := by omega
        go_wp2_with fail
        go_ret
        rw [← HY.out]
        exact ⟨rfl, G, HM.out, HST.out⟩
      · have HB := Lib.hid (show As.B1 false y from .inr hy)
        have hpos : (0 : Int) < (y.l.length : Int) := by have := List.length_pos_iff.2 hy; omega
        have HMS := Lib.hid (show y.l.tail.length < As.meas gx (.bool false) wr from by rw [As.meas_is HM.out false, List.length_tail]; have := List.length_pos_iff.2 hy; simp; omega)
        clear hy
        generalize y.l.length = ny at c0 hpos
        go_wp2_with fail
        go_at_call 235
        refine (anum_any HM.out HT.out HS.out).mono ?_
        rintro e w1 ⟨rfl, g1⟩
        have HG1 := Lib.hid g1
        have HS1 := Lib.hid HS.out.num
        have HE1 := Lib.hid (show (As.num y).2.l = y.l.tail from As.next_l y)
        have HE2 := Lib.hid (As.num_len y)
        have hnr := HR.out y
        have HW := Lib.hid (show As.byte1 y = As.put ⟨false, As.no, [UInt8.ofNat ((As.num y).1 % 256).toNat], 0, [], []⟩ (As.sat (decide (-128 ≤ (As.num y).1) && decide ((As.num y).1 ≤ 255)) (As.num y).2) from rfl)
        clear g1
        generalize As.num y = E at *
        obtain ⟨n, l1, ok1, p1⟩ := E
        dsimp only at HG1 HS1 HE1 HE2 HW hnr ⊢
        have HBV := Lib.hid (show (bv [UInt8.ofNat (n % 256).toNat]).toArray = #[.int .u8 (n % 256)] from by simp [bv, UInt8.toNat_ofNat']; omega)
        obtain ⟨vl1, hs1⟩ := HG1.out.1.seen
        have k1 := hs1.c1
        have f1 := hs1.f 1
        clear hs1
        cases ok1
        · have HV := Lib.hid (show As.byte1 y = As.put ⟨false, As.no, [UInt8.ofNat (n % 256).toNat], 0, [], []⟩ ⟨l1, false, p1⟩ from by rw [HW.out]; unfold As.sat; rfl)
          have HF := Lib.hid (HG1.out.1.flag (false))
          go_wp2_with fail
          have HG2 := Lib.hid (HF.out.after HG1.out.2)
          have hfr := As.Rb.fresh HF.out.1 [UInt8.ofNat (n % 256).toNat] (by unfold maxLen; simp)
          rw [HBV.out] at hfr
          have hsz : (w1.setCell ⟨gx, 1, none⟩ (.bool (false))).heap.size = w1.heap.size := by simp [World.setCell]
          rw [hsz] at hfr
          have HB2 := Lib.hid ((Below.refl (w1.setCell ⟨gx, 1, none⟩ (.bool (false))).heap.size _).alloc (Nat.le_refl _) (.cells #[.int .u8 (n % 256)] 5))
          obtain ⟨W2, hW2⟩ : ∃ W2, (w1.setCell ⟨gx, 1, none⟩ (.bool (false))).alloc (.cells #[.int .u8 (n % 256)] 5) = W2 := ⟨_, rfl⟩
          rw [hW2] at hfr HB2 ⊢
          have HR2 := Lib.hid hfr.1
          have HI2 := Lib.hid hfr.2
          clear hfr hW2
          go_at_call 241
          refine (aput_any (HF.out.1.kept HB2.out) ⟨false, As.no, [UInt8.ofNat (n % 256).toNat], 0, [], []⟩ (.slice (some ⟨w1.heap.size, 0, none⟩) 1 1) HR2.out HI2.out (by have h1 := HLN.out.1; have h2 := HE2.out; dsimp only at h2 ⊢; rw [h2]; omega)).mono ?_
          rintro e w3 ⟨rfl, G3, m3, s3⟩
          have hst3 := ((HST.out.trans ⟨HG2.out.2.mono (fun k e => e ▸ HM.out.gx), fun k hk => .inl hk⟩).trans (Step.of_below HB2.out)).trans s3
          have htb3 : As.Tb G3 w3 := (((HT.out.go HM.out.gx HG2.out.2).kept HB2.out)).step s3
          have hnx := HN.out.next As.byte1_l HB.out
          have hl3 : (As.byte1 y).l = y.l.tail := As.byte1_l y
          have hp3 : (As.byte1 y).p.length = y.p.length + 1 := by rw [HV.out, As.put_len, HE2.out]
          rw [← HV.out] at m3
          have HM3 := Lib.hid m3
          have HST3 := Lib.hid hst3
          have HTB3 := Lib.hid htb3
          have HNX := Lib.hid hnx
          have HL3 := Lib.hid hl3
          have HP3 := Lib.hid hp3
          have HS3 := Lib.hid (show As.Short (As.byte1 y).l from by rw [hl3, ← HE1.out]; exact HS1.out)
          clear m3 s3 hst3 htb3 hnx hl3 hp3
          go_wp2_with fail
          go_roundw
          case rel => exact ⟨false, As.byte1 y, G3, rfl, HM3.out, HTB3.out, HS3.out, HST3.out, by rw [HP3.out, HL3.out, if_neg (by decide)]; exact HLN.out.2 HB.out, HNX.out⟩
          case measure => have e := As.meas_is HM3.out false; rw [HL3.out, if_neg (by decide), Nat.zero_add] at e; rw [e]; exact HMS.out
        · by_cases h1 : -128 ≤ n
          · have HV := Lib.hid (show As.byte1 y = As.put ⟨false, As.no, [UInt8.ofNat (n % 256).toNat], 0, [], []⟩ ⟨l1, decide (n ≤ 255), p1⟩ from by rw [HW.out]; unfold As.sat; simp [h1])
            have HF := Lib.hid (HG1.out.1.flag (decide (n ≤ 255)))
            go_wp2_with fail
            have HG2 := Lib.hid (HF.out.after HG1.out.2)
            have hfr := As.Rb.fresh HF.out.1 [UInt8.ofNat (n % 256).toNat] (by unfold maxLen; simp)
            rw [HBV.out] at hfr
            have hsz : (w1.setCell ⟨gx, 1, none⟩ (.bool (decide (n ≤ 255)))).heap.size = w1.heap.size := by simp [World.setCell]
            rw [hsz] at hfr
            have HB2 := Lib.hid ((Below.refl (w1.setCell ⟨gx, 1, none⟩ (.bool (decide (n ≤ 255)))).heap.size _).alloc (Nat.le_refl _) (.cells #[.int .u8 (n % 256)] 5))
            obtain ⟨W2, hW2⟩ : ∃ W2, (w1.setCell ⟨gx, 1, none⟩ (.bool (decide (n ≤ 255)))).alloc (.cells #[.int .u8 (n % 256)] 5) = W2 := ⟨_, rfl⟩
            rw [hW2] at hfr HB2 ⊢
            have HR2 := Lib.hid hfr.1
            have HI2 := Lib.hid hfr.2
            clear hfr hW2
            go_at_call 241
            refine (aput_any (HF.out.1.kept HB2.out) ⟨false, As.no, [UInt8.ofNat (n % 256).toNat], 0, [], []⟩ (.slice (some ⟨w1.heap.size, 0, none⟩) 1 1) HR2.out HI2.out (by have h1 := HLN.out.1; have h2 := HE2.out; dsimp only at h2 ⊢; rw [h2]; omega)).mono ?_
            rintro e w3 ⟨rfl, G3, m3, s3⟩
            have hst3 := ((HST.out.trans ⟨HG2.out.2.mono (fun k e => e ▸ HM.out.gx), fun k hk => .inl hk⟩).trans (Step.of_below HB2.out)).trans s3
            have htb3 : As.Tb G3 w3 := (((HT.out.go HM.out.gx HG2.out.2).kept HB2.out)).step s3
            have hnx := HN.out.next As.byte1_l HB.out
            have hl3 : (As.byte1 y).l = y.l.tail := As.byte1_l y
            have hp3 : (As.byte1 y).p.length = y.p.length + 1 := by rw [HV.out, As.put_len, HE2.out]
            rw [← HV.out] at m3
            have HM3 := Lib.hid m3
            have HST3 := Lib.hid hst3
            have HTB3 := Lib.hid htb3
            have HNX := Lib.hid hnx
            have HL3 := Lib.hid hl3
            have HP3 := Lib.hid hp3
            have HS3 := Lib.hid (show As.Short (As.byte1 y).l from by rw [hl3, ← HE1.out]; exact HS1.out)
            clear m3 s3 hst3 htb3 hnx hl3 hp3
            go_wp2_with fail
            go_roundw
            case rel => exact ⟨false, As.byte1 y, G3, rfl, HM3.out, HTB3.out, HS3.out, HST3.out, by rw [HP3.out, HL3.out, if_neg (by decide)]; exact HLN.out.2 HB.out, HNX.out⟩
            case measure => have e := As.meas_is HM3.out false; rw [HL3.out, if_neg (by decide), Nat.zero_add] at e; rw [e]; exact HMS.out
          · have HV := Lib.hid (show As.byte1 y = As.put ⟨false, As.no, [UInt8.ofNat (n % 256).toNat], 0, [], []⟩ ⟨l1, false, p1⟩ from by rw [HW.out]; unfold As.sat; simp [h1])
            have HF := Lib.hid (HG1.out.1.flag (false))
            go_wp2_with fail
            have HG2 := Lib.hid (HF.out.after HG1.out.2)
            have hfr := As.Rb.fresh HF.out.1 [UInt8.ofNat (n % 256).toNat] (by unfold maxLen; simp)
            rw [HBV.out] at hfr
            have hsz : (w1.setCell ⟨gx, 1, none⟩ (.bool (false))).heap.size = w1.heap.size := by simp [World.setCell]
            rw [hsz] at hfr
            have HB2 := Lib.hid ((Below.refl (w1.setCell ⟨gx, 1, none⟩ (.bool (false))).heap.size _).alloc (Nat.le_refl _) (.cells #[.int .u8 (n % 256)] 5))
            obtain ⟨W2, hW2⟩ : ∃ W2, (w1.setCell ⟨gx, 1, none⟩ (.bool (false))).alloc (.cells #[.int .u8 (n % 256)] 5) = W2 := ⟨_, rfl⟩
            rw [hW2] at hfr HB2 ⊢
            have HR2 := Lib.hid hfr.1
            have HI2 := Lib.hid hfr.2
            clear hfr hW2
            go_at_call 241
            refine (aput_any (HF.out.1.kept HB2.out) ⟨false, As.no, [UInt8.ofNat (n % 256).toNat], 0, [], []⟩ (.slice (some ⟨w1.heap.size, 0, none⟩) 1 1) HR2.out HI2.out (by have h1 := HLN.out.1; have h2 := HE2.out; dsimp only at h2 ⊢; rw [h2]; omega)).mono ?_
            rintro e w3 ⟨rfl, G3, m3, s3⟩
            have hst3 := ((HST.out.trans ⟨HG2.out.2.mono (fun k e => e ▸ HM.out.gx), fun k hk => .inl hk⟩).trans (Step.of_below HB2.out)).trans s3
            have htb3 : As.Tb G3 w3 := (((HT.out.go HM.out.gx HG2.out.2).kept HB2.out)).step s3
            have hnx := HN.out.next As.byte1_l HB.out
            have hl3 : (As.byte1 y).l = y.l.tail := As.byte1_l y
            have hp3 : (As.byte1 y).p.length = y.p.length + 1 := by rw [HV.out, As.put_len, HE2.out]
            rw [← HV.out] at m3
            have HM3 := Lib.hid m3
            have HST3 := Lib.hid hst3
            have HTB3 := Lib.hid htb3
            have HNX := Lib.hid hnx
            have HL3 := Lib.hid hl3
            have HP3 := Lib.hid hp3
            have HS3 := Lib.hid (show As.Short (As.byte1 y).l from by rw [hl3, ← HE1.out]; exact HS1.out)
            clear m3 s3 hst3 htb3 hnx hl3 hp3
            go_wp2_with fail
            go_roundw
            case rel => exact ⟨false, As.byte1 y, G3, rfl, HM3.out, HTB3.out, HS3.out, HST3.out, by rw [HP3.out, HL3.out, if_neg (by decide)]; exact HLN.out.2 HB.out, HNX.out⟩
            case measure => have e := As.meas_is HM3.out false; rw [HL3.out, if_neg (by decide), Nat.zero_add] at e; rw [e]; exact HMS.out
    · have HB := Lib.hid (show As.B1 true y from .inl rfl)
      have HMS := Lib.hid (show y.l.tail.length < As.meas gx (.bool true) wr from by rw [As.meas_is HM.out true, List.length_tail]; simp; omega)
      clear c0
      go_wp2_with fail
      go_at_call 235
      refine (anum_any HM.out HT.out HS.out).mono ?_
      rintro e w1 ⟨rfl, g1⟩
      have HG1 := Lib.hid g1
      have HS1 := Lib.hid HS.out.num
      have HE1 := Lib.hid (show (As.num y).2.l = y.l.tail from As.next_l y)
      have HE2 := Lib.hid (As.num_len y)
      have hnr := HR.out y
      have HW := Lib.hid (show As.byte1 y = As.put ⟨false, As.no, [UInt8.ofNat ((As.num y).1 % 256).toNat], 0, [], []⟩ (As.sat (decide (-128 ≤ (As.num y).1) && decide ((As.num y).1 ≤ 255)) (As.num y).2) from rfl)
      clear g1
      generalize As.num y = E at *
      obtain ⟨n, l1, ok1, p1⟩ := E
      dsimp only at HG1 HS1 HE1 HE2 HW hnr ⊢
      have HBV := Lib.hid (show (bv [UInt8.ofNat (n % 256).toNat]).toArray = #[.int .u8 (n % 256)] from by simp [bv, UInt8.toNat_ofNat']; omega)
      obtain ⟨vl1, hs1⟩ := HG1.out.1.seen
      have k1 := hs1.c1
      have f1 := hs1.f 1
      clear hs1
      cases ok1
      · have HV := Lib.hid (show As.byte1 y = As.put ⟨false, As.no, [UInt8.ofNat (n % 256).toNat], 0, [], []⟩ ⟨l1, false, p1⟩ from by rw [HW.out]; unfold As.sat; rfl)
        have HF := Lib.hid (HG1.out.1.flag (false))
        go_wp2_with fail
        have HG2 := Lib.hid (HF.out.after HG1.out.2)
        have hfr := As.Rb.fresh HF.out.1 [UInt8.ofNat (n % 256).toNat] (by unfold maxLen; simp)
        rw [HBV.out] at hfr
        have hsz : (w1.setCell ⟨gx, 1, none⟩ (.bool (false))).heap.size = w1.heap.size := by simp [World.setCell]
        rw [hsz] at hfr
        have HB2 := Lib.hid ((Below.refl (w1.setCell ⟨gx, 1, none⟩ (.bool (false))).heap.size _).alloc (Nat.le_refl _) (.cells #[.int .u8 (n % 256)] 5))
        obtain ⟨W2, hW2⟩ : ∃ W2, (w1.setCell ⟨gx, 1, none⟩ (.bool (false))).alloc (.cells #[.int .u8 (n % 256)] 5) = W2 := ⟨_, rfl⟩
        rw [hW2] at hfr HB2 ⊢
        have HR2 := Lib.hid hfr.1
        have HI2 := Lib.hid hfr.2
        clear hfr hW2
        go_at_call 241
        refine (aput_any (HF.out.1.kept HB2.out) ⟨false, As.no, [UInt8.ofNat (n % 256).toNat], 0, [], []⟩ (.slice (some ⟨w1.heap.size, 0, none⟩) 1 1) HR2.out HI2.out (by have h1 := HLN.out.1; have h2 := HE2.out; dsimp only at h2 ⊢; rw [h2]; omega)).mono ?_
        rintro e w3 ⟨rfl, G3, m3, s3⟩
        have hst3 := ((HST.out.trans ⟨HG2.out.2.mono (fun k e => e ▸ HM.out.gx), fun k hk => .inl hk⟩).trans (Step.of_below HB2.out)).trans s3
        have htb3 : As.Tb G3 w3 := (((HT.out.go HM.out.gx HG2.out.2).kept HB2.out)).step s3
        have hnx := HN.out.next As.byte1_l HB.out
        have hl3 : (As.byte1 y).l = y.l.tail := As.byte1_l y
        have hp3 : (As.byte1 y).p.length = y.p.length + 1 := by rw [HV.out, As.put_len, HE2.out]
        rw [← HV.out] at m3
        have HM3 := Lib.hid m3
        have HST3 := Lib.hid hst3
        have HTB3 := Lib.hid htb3
        have HNX := Lib.hid hnx
        have HL3 := Lib.hid hl3
        have HP3 := Lib.hid hp3
        have HS3 := Lib.hid (show As.Short (As.byte1 y).l from by rw [hl3, ← HE1.out]; exact HS1.out)
        clear m3 s3 hst3 htb3 hnx hl3 hp3
        go_wp2_with fail
        go_roundw
        case rel => exact ⟨false, As.byte1 y, G3, rfl, HM3.out, HTB3.out, HS3.out, HST3.out, by rw [HP3.out, HL3.out, if_neg (by decide)]; exact HLN.out.2 HB.out, HNX.out⟩
        case measure => have e := As.meas_is HM3.out false; rw [HL3.out, if_neg (by decide), Nat.zero_add] at e; rw [e]; exact HMS.out
      · by_cases h1 : -128 ≤ n
        · have HV := Lib.hid (show As.byte1 y = As.put ⟨false, As.no, [UInt8.ofNat (n % 256).toNat], 0, [], []⟩ ⟨l1, decide (n ≤ 255), p1⟩ from by rw [HW.out]; unfold As.sat; simp [h1])
          have HF := Lib.hid (HG1.out.1.flag (decide (n ≤ 255)))
          go_wp2_with fail
          have HG2 := Lib.hid (HF.out.after HG1.out.2)
          have hfr := As.Rb.fresh HF.out.1 [UInt8.ofNat (n % 256).toNat] (by unfold maxLen; simp)
          rw [HBV.out] at hfr
          have hsz : (w1.setCell ⟨gx, 1, none⟩ (.bool (decide (n ≤ 255)))).heap.size = w1.heap.size := by simp [World.setCell]
          rw [hsz] at hfr
          have HB2 := Lib.hid ((Below.refl (w1.setCell ⟨gx, 1, none⟩ (.bool (decide (n ≤ 255)))).heap.size _).alloc (Nat.le_refl _) (.cells #[.int .u8 (n % 256)] 5))
          obtain ⟨W2, hW2⟩ : ∃ W2, (w1.setCell ⟨gx, 1, none⟩ (.bool (decide (n ≤ 255)))).alloc (.cells #[.int .u8 (n % 256)] 5) = W2 := ⟨_, rfl⟩
          rw [hW2] at hfr HB2 ⊢
          have HR2 := Lib.hid hfr.1
          have HI2 := Lib.hid hfr.2
          clear hfr hW2
          go_at_call 241
          refine (aput_any (HF.out.1.kept HB2.out) ⟨false, As.no, [UInt8.ofNat (n % 256).toNat], 0, [], []⟩ (.slice (some ⟨w1.heap.size, 0, none⟩) 1 1) HR2.out HI2.out (by have h1 := HLN.out.1; have h2 := HE2.out; dsimp only at h2 ⊢; rw [h2]; omega)).mono ?_
          rintro e w3 ⟨rfl, G3, m3, s3⟩
          have hst3 := ((HST.out.trans ⟨HG2.out.2.mono (fun k e => e ▸ HM.out.gx), fun k hk => .inl hk⟩).trans (Step.of_below HB2.out)).trans s3
          have htb3 : As.Tb G3 w3 := (((HT.out.go HM.out.gx HG2.out.2).kept HB2.out)).step s3
          have hnx := HN.out.next As.byte1_l HB.out
          have hl3 : (As.byte1 y).l = y.l.tail := As.byte1_l y
          have hp3 : (As.byte1 y).p.length = y.p.length + 1 := by rw [HV.out, As.put_len, HE2.out]
          rw [← HV.out] at m3
          have HM3 := Lib.hid m3
          have HST3 := Lib.hid hst3
          have HTB3 := Lib.hid htb3
          have HNX := Lib.hid hnx
          have HL3 := Lib.hid hl3
          have HP3 := Lib.hid hp3
          have HS3 := Lib.hid (show As.Short (As.byte1 y).l from by rw [hl3, ← HE1.out]; exact HS1.out)
          clear m3 s3 hst3 htb3 hnx hl3 hp3
          go_wp2_with fail
          go_roundw
          case rel => exact ⟨false, As.byte1 y, G3, rfl, HM3.out, HTB3.out, HS3.out, HST3.out, by rw [HP3.out, HL3.out, if_neg (by decide)]; exact HLN.out.2 HB.out, HNX.out⟩
          case measure => have e := As.meas_is HM3.out false; rw [HL3.out, if_neg (by decide), Nat.zero_add] at e; rw [e]; exact HMS.out
        · have HV := Lib.hid (show As.byte1 y = As.put ⟨false, As.no, [UInt8.ofNat (n % 256).toNat], 0, [], []⟩ ⟨l1, false, p1⟩ from by rw [HW.out]; unfold As.sat; simp [h1])
          have HF := Lib.hid (HG1.out.1.flag (false))
          go_wp2_with fail
          have HG2 := Lib.hid (HF.out.after HG1.out.2)
          have hfr := As.Rb.fresh HF.out.1 [UInt8.ofNat (n % 256).toNat] (by unfold maxLen; simp)
          rw [HBV.out] at hfr
          have hsz : (w1.setCell ⟨gx, 1, none⟩ (.bool (false))).heap.size = w1.heap.size := by simp [World.setCell]
          rw [hsz] at hfr
          have HB2 := Lib.hid ((Below.refl (w1.setCell ⟨gx, 1, none⟩ (.bool (false))).heap.size _).alloc (Nat.le_refl _) (.cells #[.int .u8 (n % 256)] 5))
          obtain ⟨W2, hW2⟩ : ∃ W2, (w1.setCell ⟨gx, 1, none⟩ (.bool (false))).alloc (.cells #[.int .u8 (n % 256)] 5) = W2 := ⟨_, rfl⟩
          rw [hW2] at hfr HB2 ⊢
          have HR2 := Lib.hid hfr.1
          have HI2 := Lib.hid hfr.2
          clear hfr hW2
          go_at_call 241
          refine (aput_any (HF.out.1.kept HB2.out) ⟨false, As.no, [UInt8.ofNat (n % 256).toNat], 0, [], []⟩ (.slice (some ⟨w1.heap.size, 0, none⟩) 1 1) HR2.out HI2.out (by have h1 := HLN.out.1; have h2 := HE2.out; dsimp only at h2 ⊢; rw [h2]; omega)).mono ?_
          rintro e w3 ⟨rfl, G3, m3, s3⟩
          have hst3 := ((HST.out.trans ⟨HG2.out.2.mono (fun k e => e ▸ HM.out.gx), fun k hk => .inl hk⟩).trans (Step.of_below HB2.out)).trans s3
          have htb3 : As.Tb G3 w3 := (((HT.out.go HM.out.gx HG2.out.2).kept HB2.out)).step s3
          have hnx := HN.out.next As.byte1_l HB.out
          have hl3 : (As.byte1 y).l = y.l.tail := As.byte1_l y
          have hp3 : (As.byte1 y).p.length = y.p.length + 1 := by rw [HV.out, As.put_len, HE2.out]
          rw [← HV.out] at m3
          have HM3 := Lib.hid m3
          have HST3 := Lib.hid hst3
          have HTB3 := Lib.hid htb3
          have HNX := Lib.hid hnx
          have HL3 := Lib.hid hl3
          have HP3 := Lib.hid hp3
          have HS3 := Lib.hid (show As.Short (As.byte1 y).l from by rw [hl3, ← HE1.out]; exact HS1.out)
          clear m3 s3 hst3 htb3 hnx hl3 hp3
          go_wp2_with fail
          go_roundw
          case rel => exact ⟨false, As.byte1 y, G3, rfl, HM3.out, HTB3.out, HS3.out, HST3.out, by rw [HP3.out, HL3.out, if_neg (by decide)]; exact HLN.out.2 HB.out, HNX.out⟩
          case measure => have e := As.meas_is HM3.out false; rw [HL3.out, if_neg (by decide), Nat.zero_add] at e; rw [e]; exact HMS.out
end Go.Proofs.YtfafdkbnmfpbmaaGreatDoor
/- Layer 7: bytes: zeros, align. -/
namespace Go.Proofs.YtfafdkbnmfpbmaaGreatDoor
open Go.RowKit Kit
set_option linter.unusedVariables false
set_option linter.unusedSimpArgs false

set_option maxRecDepth 20000 in
/-- Zeros. -/
theorem As.zeros_make (k : IntKind) (n : Nat) (hn : n ≤ 131072) (W : World) : (Instr.makeSlice 26 (.int k (n : Int)) (.int k (n : Int))).run Tryz.prog W = .ok (.slice (some ⟨W.heap.size, 0, none⟩) n n) (W.alloc (.cells (bv (List.replicate n 0)).toArray 5)) := by
  obtain ⟨i, z, hi, hz, hs1, hb1, _⟩ := abyt.info
  have hz' : z = .int .u8 0 := by
    have h : (Tryz.prog.info? 5).map (fun i => i.zero) = some (some (.int .u8 0)) := by kernel_rfl
    rw [hi] at h
    simp at h
    rw [hz] at h
    injection h
  subst hz'
  have hb : (i.bytes : Int) * (n : Int) ≤ 281474976710656 := by rw [hb1]; omega
  have hr := run_make (P := Tryz.prog) W 26 5 i _ Tryz.underlying26 hi hz k k n n (by omega) (by omega) hb (by omega)
  rw [hr]
  simp only [Int.toNat_natCast]
  congr 3
  apply Array.ext'
  apply List.ext_getElem
  · simp [madeCells, hs1, bv, Value.cells]
  · intro j h1 h2
    simp [madeCells, bv, Value.cells, Nat.mod_one]
theorem As.OptPost.put {F : Nat → Prop} {w w1 w2 w3 : World} {gx : Nat} {x y : As.L} (g1 : As.Go F w gx x w1) (b2 : Below w1.heap.size w1 w2) (t : As.To F w2 gx y w3) (hg : F gx) : As.To F w gx y w3 :=
  (t.after (Step.of_below b2)).after ⟨g1.2.mono (fun k e => e ▸ hg), fun k hk => .inl hk⟩
set_option maxRecDepth 100000 in
set_option maxHeartbeats 8000000 in
theorem adata_align {F : Nat → Prop} {w : World} {gx : Nat} {x : As.L} (h : As.Mk F w gx x) (hT : As.Tb F w) (hsh : As.Short x.l) (hl : x.p.length + x.l.length ≤ 700000000) (a : Nat) (ha : a < 4294967296) :
    Calls Tryz.prog 166 #[.pointer (some ⟨gx, 0, none⟩), .string ⟨#[97, 108, 105, 103, 110]⟩, .int .u32 (a : Int)] w (As.OptPost F w gx (As.data As.tAlign a x)) := by
  have HP := Lib.hid (show As.data As.tAlign a x = some (As.put (As.raw (List.replicate ((4 - a % 4) % 4) 0)) x) from by unfold As.data; rw [if_neg (by decide), if_neg (by decide), if_neg (by decide), if_neg (by decide), if_pos rfl])
  obtain ⟨m, hm⟩ : ∃ m, (4 - a % 4) % 4 = m := ⟨_, rfl⟩
  rw [hm] at HP
  obtain ⟨z, hz⟩ : ∃ z : Nat, (4294967296 - a) % 4294967296 = z := ⟨_, rfl⟩
  have hneg : IntKind.u32.wrap (-(a : Int)) = (z : Int) := by rw [IntKind.wrap_u32]; omega
  have hand : Go.bits .and .u32 (z : Int) 3 = (m : Int) := by
    show IntKind.u32.wrap ((BitVec.ofInt 32 (z : Int) &&& BitVec.ofInt 32 3).toNat : Int) = _
    have h1 : (BitVec.ofInt 32 3).toNat = 2 ^ 2 - 1 := by decide
    have h2 : (BitVec.ofInt 32 (z : Int)).toNat = z := by rw [BitVec.ofInt_natCast, BitVec.toNat_ofNat]; exact Nat.mod_eq_of_lt (by omega)
    rw [BitVec.toNat_and, h1, h2, Nat.and_two_pow_sub_one_eq_mod, IntKind.wrap_u32]
    omega
  have hmk := fun W => As.zeros_make .u32 m (by omega) W
  have HM0 := Lib.hid h
  have HFR := Lib.hid (As.Rb.fresh h (List.replicate m 0) (by rw [List.length_replicate]; unfold maxLen; omega))
  have HL := Lib.hid hl
  clear h hT hsh hl hm hz
  rw [HP.out]
  clear HP
  go_enter Tryz.func166, Tryz.ntmps166
  go_wp2_with fail
  go_at_call 241
  have hfr := HFR.out
  rw [List.length_replicate] at hfr
  refine (aput_any (HM0.out.kept ((Below.refl _ _).alloc (Nat.le_refl _) _)) (As.raw (List.replicate m 0)) _ hfr.1 hfr.2 (by have := HL.out; omega)).mono ?_
  rintro e w3 ⟨rfl, t3⟩
  have HT3 := Lib.hid (t3.after (Step.of_below ((Below.refl w.heap.size w).alloc (Nat.le_refl _) _)))
  clear t3
  go_wp2_with fail
  go_ret
  exact ⟨rfl, HT3.out⟩
end Go.Proofs.YtfafdkbnmfpbmaaGreatDoor
/- Layer 7: bytes: span. -/
namespace Go.Proofs.YtfafdkbnmfpbmaaGreatDoor
open Go.RowKit Kit
set_option linter.unusedVariables false
set_option linter.unusedSimpArgs false

set_option maxRecDepth 100000 in
set_option maxHeartbeats 8000000 in
theorem adata_span {F : Nat → Prop} {w : World} {gx : Nat} {x : As.L} (h : As.Mk F w gx x) (hT : As.Tb F w) (hsh : As.Short x.l) (hl : x.p.length + x.l.length ≤ 700000000) (a : Nat) (ha : a < 4294967296) :
    Calls Tryz.prog 166 #[.pointer (some ⟨gx, 0, none⟩), .string ⟨#[115, 112, 97, 110]⟩, .int .u32 (a : Int)] w (As.OptPost F w gx (As.data As.tSpan a x)) := by
  have HP := Lib.hid (show As.data As.tSpan a x = some (As.put ⟨false, As.no, [0, 0, 0, 0], 5, (As.name (As.name x).2).1, (As.name x).1⟩ (As.name (As.name x).2).2) from by unfold As.data; rw [if_neg (by decide), if_neg (by decide), if_neg (by decide), if_neg (by decide), if_neg (by decide), if_pos rfl])
  have HM0 := Lib.hid h
  have HT0 := Lib.hid hT
  have HS0 := Lib.hid hsh
  have HL := Lib.hid hl
  clear h hT hsh hl
  rw [HP.out]
  clear HP
  go_enter Tryz.func166, Tryz.ntmps166
  go_wp2_with fail
  go_at_call 239
  refine (aname_any HM0.out HT0.out HS0.out).mono ?_
  rintro e w1 ⟨rfl, g1⟩
  have HG1 := Lib.hid g1
  have HT1 := Lib.hid (HT0.out.go HM0.out.gx g1.2)
  have HS1 := Lib.hid HS0.out.name
  have HE1 := Lib.hid (As.name_len x)
  clear g1
  generalize As.name x = E1 at *
  obtain ⟨na, x1⟩ := E1
  dsimp only at HG1 HT1 HS1 HE1 ⊢
  have F4 := Lib.hid (show As.four (0 : Int).toNat = [0, 0, 0, 0] from by decide)
  have HD := Lib.hid (HG1.out.1.kept (Below.refl w1.heap.size w1).drew)
  have HDT := Lib.hid (HT1.out.kept (Below.refl w1.heap.size w1).drew)
  go_wp2_with fail
  go_region_with (first
    | (go_at_call 168; refine (As.four_int HD.out 0 (by decide) (by decide)).mono ?_; rintro e w2 ⟨g, rfl, r2, i2, b2⟩; have HR2 := Lib.hid (F4.out ▸ r2); have HI2 := Lib.hid i2; have HB2 := Lib.hid b2; clear r2 i2 b2)
    | (go_at_call 239; refine (aname_any (HD.out.kept HB2.out) (HDT.out.kept HB2.out) HS1.out).mono ?_; rintro e w3 ⟨rfl, g3⟩; have HG3 := Lib.hid g3; clear g3)
    | (go_at_call 241; refine (aput_any HG3.out.1 ⟨false, As.no, [0, 0, 0, 0], 5, (As.name x1).1, na⟩ (.slice (some ⟨g, 0, none⟩) 4 4) (HR2.out.fr (HG3.out.2.mono (fun k e => e ▸ HM0.out.gx)) (fun _ _ h => h)) HI2.out (by rw [As.name_len, HE1.out]; have := HL.out; omega)).mono ?_; rintro e w4 ⟨rfl, t4⟩; have HT4 := Lib.hid t4; clear t4))
  all_goals go_wp2_with fail
  all_goals go_ret
  all_goals exact ⟨rfl, ((HT4.out.after ⟨HG3.out.2.mono (fun k e => e ▸ HM0.out.gx), fun k hk => .inl hk⟩).after (Step.of_below HB2.out)).after ((Step.of_below (Below.refl w1.heap.size w1).drew)) |>.after ⟨HG1.out.2.mono (fun k e => e ▸ HM0.out.gx), fun k hk => .inl hk⟩⟩
end Go.Proofs.YtfafdkbnmfpbmaaGreatDoor
/- Layer 7: bytes: space. -/
namespace Go.Proofs.YtfafdkbnmfpbmaaGreatDoor
open Go.RowKit Kit
set_option linter.unusedVariables false
set_option linter.unusedSimpArgs false

set_option maxRecDepth 100000 in
set_option maxHeartbeats 8000000 in
theorem adata_space {F : Nat → Prop} {w : World} {gx : Nat} {x : As.L} (h : As.Mk F w gx x) (hT : As.Tb F w) (hsh : As.Short x.l) (hl : x.p.length + x.l.length ≤ 700000000) (a : Nat) (ha : a < 4294967296) :
    Calls Tryz.prog 166 #[.pointer (some ⟨gx, 0, none⟩), .string ⟨#[115, 112, 97, 99, 101]⟩, .int .u32 (a : Int)] w (As.OptPost F w gx (As.data As.tSpace a x)) := by
  obtain ⟨R, hR⟩ : ∃ R, R = (if (As.num x).2.ok && As.spaceOk (As.num x).1 then As.put (As.raw (List.replicate (As.num x).1.toNat 0)) (As.sat (As.spaceOk (As.num x).1) (As.num x).2) else As.sat (As.spaceOk (As.num x).1) (As.num x).2) := ⟨_, rfl⟩
  have HP := Lib.hid (show As.data As.tSpace a x = some R from by rw [hR]; unfold As.data; rw [if_neg (by decide), if_neg (by decide), if_neg (by decide), if_pos rfl])
  have HM0 := Lib.hid h
  have HT0 := Lib.hid hT
  have HS0 := Lib.hid hsh
  have HL := Lib.hid hl
  have HE2 := Lib.hid (As.num_len x)
  have hnr := As.num_range x
  clear h hT hsh hl
  have HRR := Lib.hid hR
  clear hR
  rw [HP.out]
  clear HP
  go_enter Tryz.func166, Tryz.ntmps166
  go_wp2_with fail
  go_at_call 235
  refine (anum_any HM0.out HT0.out HS0.out).mono ?_
  rintro e w1 ⟨rfl, g1⟩
  have HG1 := Lib.hid g1
  clear g1
  generalize As.num x = E at *
  obtain ⟨n, l1, ok1, p1⟩ := E
  dsimp only at HG1 HE2 hnr HRR ⊢
  obtain ⟨vl1, hs1⟩ := HG1.out.1.seen
  have k1 := hs1.c1
  have f1 := hs1.f 1
  clear hs1
  cases ok1
  · have HF := Lib.hid (HG1.out.1.flag (false))
    have HV := Lib.hid (show R = ⟨l1, false, p1⟩ from by rw [HRR.out]; rfl)
    go_wp2_with fail
    go_ret
    rw [HV.out]
    exact ⟨rfl, (HF.out.after HG1.out.2).to⟩
  · by_cases h1 : 0 ≤ n
    · by_cases h2 : n ≤ 131072
      · obtain ⟨m, rfl⟩ : ∃ m : Nat, n = (m : Int) := ⟨n.toNat, by omega⟩
        have h2' : (decide ((m : Int) ≤ 131072)) = true := by simpa using h2
        have HF := Lib.hid (HG1.out.1.flag true)
        have HV := Lib.hid (show R = As.put (As.raw (List.replicate m 0)) ⟨l1, true, p1⟩ from by
          rw [HRR.out]
          have e : As.spaceOk (m : Int) = true := by unfold As.spaceOk; simp [h2]
          rw [e]; rfl)
        have hmk := fun W => As.zeros_make .i64 m (by omega) W
        go_wp2_with fail
        have hfr := As.Rb.fresh HF.out.1 (List.replicate m 0) (by rw [List.length_replicate]; unfold maxLen; omega)
        rw [List.length_replicate, show (w1.setCell ⟨gx, 1, none⟩ (.bool true)).heap.size = w1.heap.size by simp [World.setCell]] at hfr
        have HB2 := Lib.hid ((Below.refl (w1.setCell ⟨gx, 1, none⟩ (.bool true)).heap.size _).alloc (Nat.le_refl _) (.cells (bv (List.replicate m 0)).toArray 5))
        obtain ⟨W2, hW2⟩ : ∃ W2, (w1.setCell ⟨gx, 1, none⟩ (.bool true)).alloc (.cells (bv (List.replicate m 0)).toArray 5) = W2 := ⟨_, rfl⟩
        rw [hW2] at hfr HB2 ⊢
        have HFR := Lib.hid hfr
        clear hfr hW2
        go_at_call 241
        refine (aput_any (HF.out.1.kept HB2.out) (As.raw (List.replicate m 0)) (.slice (some ⟨w1.heap.size, 0, none⟩) m m) HFR.out.1 HFR.out.2 (by have := HL.out; have := HE2.out; dsimp only at this ⊢; rw [this]; omega)).mono ?_
        rintro e w3 ⟨rfl, t3⟩
        have HT3 := Lib.hid (As.OptPost.put (HF.out.after HG1.out.2) HB2.out t3 HM0.out.gx)
        clear t3
        go_wp2_with fail
        go_ret
        rw [HV.out]
        exact ⟨rfl, HT3.out⟩
      · have h2' : (decide (n ≤ 131072)) = false := by simpa using h2
        have HF := Lib.hid (HG1.out.1.flag (false))
        have HV := Lib.hid (show R = ⟨l1, false, p1⟩ from by rw [HRR.out]; unfold As.spaceOk As.sat; simp [h1, h2])
        go_wp2_with fail
        go_ret
        rw [HV.out]
        exact ⟨rfl, (HF.out.after HG1.out.2).to⟩
    · have HF := Lib.hid (HG1.out.1.flag (false))
      have HV := Lib.hid (show R = ⟨l1, false, p1⟩ from by rw [HRR.out]; unfold As.spaceOk As.sat; simp [h1])
      go_wp2_with fail
      go_ret
      rw [HV.out]
      exact ⟨rfl, (HF.out.after HG1.out.2).to⟩
end Go.Proofs.YtfafdkbnmfpbmaaGreatDoor
/- Layer 7: bytes: text. -/
namespace Go.Proofs.YtfafdkbnmfpbmaaGreatDoor
open Go.RowKit Kit
set_option linter.unusedVariables false
set_option linter.unusedSimpArgs false

/-- '[]byte(s)': new bytes. -/
theorem As.conv_sb (w : World) (s : List UInt8) (hs : s.length ≤ maxLen) :
    ∃ w1 c, (convert 9 26 (.string ⟨s.toArray⟩)).run Tryz.prog w = .ok (.slice (some ⟨w.heap.size, 0, none⟩) s.length c) w1 ∧ s.length ≤ c ∧ c ≤ maxLen ∧
      (∀ j, j < s.length → w1.cell? ⟨w.heap.size, j, none⟩ = some (.int .u8 (s.getD j 0).toNat)) ∧ Below w.heap.size w w1 ∧ w.heap.size < w1.heap.size := by
  have hsz : (⟨s.toArray⟩ : ByteArray).size = s.length := by simp [ByteArray.size]
  have hr := Lib.run_convert_string_bytes (P := Tryz.prog) w 9 26 5 ⟨s.toArray⟩ Tryz.underlying9 Tryz.underlying26 Tryz.underlying5
  rw [hsz] at hr
  refine ⟨_, _, hr, grownCap_ge w s.length 0 5, grownCap_le_maxLen w s.length 0 5 hs, fun j hj => ?_, ⟨rfl, rfl, rfl, by rw [Lib.bytesWorld_size]; omega, fun k hk => Lib.bytesWorld_at_old w 5 ⟨s.toArray⟩ k hk⟩, by rw [Lib.bytesWorld_size]; omega⟩
  have := Lib.bytesWorld_cell w 5 ⟨s.toArray⟩ j (by rw [hsz]; exact hj)
  simpa using this
theorem As.Rb.fresh2 {F : Nat → Prop} {w w2 : World} {gx : Nat} {x : As.L} (h : As.Mk F w gx x) {b : List UInt8} {c : Nat} (h1 : b.length ≤ c) (h2 : c ≤ maxLen) (h3 : ∀ j, j < b.length → w2.cell? ⟨w.heap.size, j, none⟩ = some (.int .u8 (b.getD j 0).toNat)) (h4 : w.heap.size < w2.heap.size) :
    As.Rb F w2 (.slice (some ⟨w.heap.size, 0, none⟩) b.length c) b ∧ As.Hi gx (.slice (some ⟨w.heap.size, 0, none⟩) b.length c) := by
  refine ⟨⟨⟨by rw [bv_length, Nat.mul_one], some ⟨w.heap.size, 0, none⟩, c, rfl, h1, h2, fun _ => ⟨_, 0, rfl, h4, fun j u hu => ?_⟩⟩, fun g off n c e hn hg => ?_⟩, fun g off n c e hn => ?_⟩
  · have hj : j < b.length := by
      have := (List.getElem?_eq_some_iff.1 hu).1
      rwa [bv_length] at this
    rw [Nat.zero_add, h3 j hj]
    simp only [bv, List.getElem?_map, List.getElem?_eq_getElem hj, Option.map_some] at hu
    injection hu with hu
    rw [← hu]
    simp [List.getD, List.getElem?_eq_getElem hj]
  · injection e with e _ _
    injection e with e
    injection e with e _
    have := h.lt g hg
    omega
  · injection e with e _ _
    injection e with e
    injection e with e _
    have := h.lt gx h.gx
    omega
set_option maxRecDepth 100000 in
set_option maxHeartbeats 8000000 in
theorem adata_text {F : Nat → Prop} {w : World} {gx : Nat} {x : As.L} (h : As.Mk F w gx x) (hT : As.Tb F w) (hsh : As.Short x.l) (hl : x.p.length + x.l.length ≤ 700000000) (a : Nat) (ha : a < 4294967296) :
    Calls Tryz.prog 166 #[.pointer (some ⟨gx, 0, none⟩), .string ⟨#[116, 101, 120, 116]⟩, .int .u32 (a : Int)] w (As.OptPost F w gx (As.data As.tText a x)) := by
  obtain ⟨R, hR⟩ : ∃ R, R = (if (As.next x).2.ok && As.textOk (As.next x).1 then As.put (As.raw (((As.next x).1.take ((As.next x).1.length - 1)).drop 1)) (As.sat (As.textOk (As.next x).1) (As.next x).2) else As.sat (As.textOk (As.next x).1) (As.next x).2) := ⟨_, rfl⟩
  have HP := Lib.hid (show As.data As.tText a x = some R from by rw [hR]; unfold As.data; rw [if_neg (by decide), if_neg (by decide), if_pos rfl])
  have HM0 := Lib.hid h
  have HS0 := Lib.hid hsh
  have HSL := Lib.hid hsh.next.1
  have HL := Lib.hid hl
  have HE2 := Lib.hid (As.next_len x)
  clear h hT hsh hl
  have HRR := Lib.hid hR
  clear hR
  rw [HP.out]
  clear HP
  go_enter Tryz.func166, Tryz.ntmps166
  go_wp2_with fail
  go_at_call 242
  refine (anext_any HM0.out).mono ?_
  rintro e w1 ⟨rfl, g1⟩
  have HG1 := Lib.hid g1
  clear g1
  generalize As.next x = E at *
  obtain ⟨s, l1, ok1, p1⟩ := E
  dsimp only at HG1 HE2 HSL HRR ⊢
  obtain ⟨vl1, hs1⟩ := HG1.out.1.seen
  have k1 := hs1.c1
  have f1 := hs1.f 1
  clear hs1
  cases ok1
  · have HF := Lib.hid (HG1.out.1.flag (false))
    have HV := Lib.hid (show R = ⟨l1, false, p1⟩ from by rw [HRR.out]; rfl)
    go_wp2_with fail
    go_ret
    rw [HV.out]
    exact ⟨rfl, (HF.out.after HG1.out.2).to⟩
  · by_cases h1 : 1 < s.length
    · have h1' : (1 : Int) < (s.length : Int) := by omega
      have h0 : 0 < s.length := by omega
      have h0' : (0 : Int) < (s.length : Int) := by omega
      have hsub : IntKind.i64.wrap ((s.length : Int) - 1) = ((s.length - 1 : Nat) : Int) := by have := HSL.out; unfold maxLen at this; rw [IntKind.wrap_i64]; omega
      have hget : (((((⟨s.toArray⟩ : ByteArray)[0]'h0).toNat : Int)) == 34) = (s.headD 0 == 34) := by
        rw [L6.get_data s 0 h0, Bool.eq_iff_iff, beq_iff_eq, beq_iff_eq]
        cases s with
        | nil => simp at h0
        | cons a b =>
          simp only [List.headD_cons, List.getD_cons_zero]
          exact ⟨fun h => UInt8.toNat_inj.1 (by have h' : a.toNat = 34 := by omega
                                                exact h'), fun h => by rw [h]; rfl⟩
      by_cases h2 : s.headD 0 = 34
      · have h2' : (s.headD 0 == 34) = true := by simpa using h2
        rw [h2'] at hget
        have HF := Lib.hid (HG1.out.1.flag true)
        have HV := Lib.hid (show R = As.put (As.raw ((s.take (s.length - 1)).drop 1)) ⟨l1, true, p1⟩ from by
          rw [HRR.out]
          have e : As.textOk s = true := by unfold As.textOk; rw [h2']; simp [h1]
          rw [e]; rfl)
        obtain ⟨B, hB⟩ : ∃ B, (s.take (s.length - 1)).drop 1 = B := ⟨_, rfl⟩
        have hx : (⟨s.toArray⟩ : ByteArray).extract 1 (s.length - 1) = ⟨B.toArray⟩ := by rw [ext_eq, ← hB, List.drop_take]
        have HBL := Lib.hid (show B.length ≤ maxLen from by rw [← hB]; simp only [List.length_drop, List.length_take]; have := HSL.out; omega)
        rw [hB] at HV
        obtain ⟨w2, c2, hrun, hc1, hc2, hcell, hb2, hlt2⟩ := As.conv_sb (w1.setCell ⟨gx, 1, none⟩ (.bool true)) B HBL.out
        have hfr := As.Rb.fresh2 HF.out.1 hc1 hc2 hcell hlt2
        have hsz : (w1.setCell ⟨gx, 1, none⟩ (.bool true)).heap.size = w1.heap.size := by simp [World.setCell]
        rw [hsz] at hfr hrun
        have HFR := Lib.hid hfr
        have HB2 := Lib.hid hb2
        clear hc1 hc2 hcell hlt2 hb2 hB hfr hsz
        go_wp2_with fail
        go_at_call 241
        refine (aput_any (HF.out.1.kept HB2.out) (As.raw B) (.slice (some ⟨w1.heap.size, 0, none⟩) B.length c2) HFR.out.1 HFR.out.2 (by have := HL.out; have := HE2.out; dsimp only at this ⊢; rw [this]; omega)).mono ?_
        rintro e w3 ⟨rfl, t3⟩
        have HT3 := Lib.hid (As.OptPost.put (HF.out.after HG1.out.2) HB2.out t3 HM0.out.gx)
        clear t3
        go_wp2_with fail
        go_ret
        rw [HV.out]
        exact ⟨rfl, HT3.out⟩
      · have h2' : (s.headD 0 == 34) = false := by simpa using h2
        rw [h2'] at hget
        have HF := Lib.hid (HG1.out.1.flag (false))
        have HV := Lib.hid (show R = ⟨l1, false, p1⟩ from by rw [HRR.out]; unfold As.textOk As.sat; rw [h2']; simp)
        go_wp2_with fail
        go_ret
        rw [HV.out]
        exact ⟨rfl, (HF.out.after HG1.out.2).to⟩
    · have h1' : ¬ (1 : Int) < (s.length : Int) := by omega
      have HF := Lib.hid (HG1.out.1.flag (false))
      have HV := Lib.hid (show R = ⟨l1, false, p1⟩ from by rw [HRR.out]; unfold As.textOk As.sat; simp [h1])
      go_wp2_with fail
      go_ret
      rw [HV.out]
      exact ⟨rfl, (HF.out.after HG1.out.2).to⟩
end Go.Proofs.YtfafdkbnmfpbmaaGreatDoor
/- Layer 7: bytes. -/
namespace Go.Proofs.YtfafdkbnmfpbmaaGreatDoor
open Go.RowKit Kit
set_option linter.unusedVariables false
set_option linter.unusedSimpArgs false

set_option maxRecDepth 100000 in
set_option maxHeartbeats 4000000 in
theorem adata_none {F : Nat → Prop} {w : World} {gx : Nat} {x : As.L} (s : List UInt8) (a : Nat) (hs : As.data s a x = none) :
    Calls Tryz.prog 166 #[.pointer (some ⟨gx, 0, none⟩), .string ⟨s.toArray⟩, .int .u32 (a : Int)] w (As.OptPost F w gx none) := by
  have n0 : s ≠ As.tWord := fun e => by subst e; exact absurd hs (by unfold As.data; rw [if_pos rfl]; exact Option.some_ne_none _)
  have n1 : s ≠ As.tByte := fun e => by subst e; exact absurd hs (by unfold As.data; rw [if_neg (by decide), if_pos rfl]; exact Option.some_ne_none _)
  have n2 : s ≠ As.tText := fun e => by subst e; exact absurd hs (by unfold As.data; rw [if_neg (by decide), if_neg (by decide), if_pos rfl]; exact Option.some_ne_none _)
  have n3 : s ≠ As.tSpace := fun e => by subst e; exact absurd hs (by unfold As.data; rw [if_neg (by decide), if_neg (by decide), if_neg (by decide), if_pos rfl]; exact Option.some_ne_none _)
  have n4 : s ≠ As.tAlign := fun e => by subst e; exact absurd hs (by unfold As.data; rw [if_neg (by decide), if_neg (by decide), if_neg (by decide), if_neg (by decide), if_pos rfl]; exact Option.some_ne_none _)
  have n5 : s ≠ As.tSpan := fun e => by subst e; exact absurd hs (by unfold As.data; rw [if_neg (by decide), if_neg (by decide), if_neg (by decide), if_neg (by decide), if_neg (by decide), if_pos rfl]; exact Option.some_ne_none _)
  have a0 : (s == [119, 111, 114, 100]) = false := (show (s == As.tWord) = false from by simpa using n0)
  have b0 : (!s == [119, 111, 114, 100]) = true := (show (!s == As.tWord) = true from by simpa using n0)
  have a1 : (s == [98, 121, 116, 101]) = false := (show (s == As.tByte) = false from by simpa using n1)
  have b1 : (!s == [98, 121, 116, 101]) = true := (show (!s == As.tByte) = true from by simpa using n1)
  have a2 : (s == [116, 101, 120, 116]) = false := (show (s == As.tText) = false from by simpa using n2)
  have b2 : (!s == [116, 101, 120, 116]) = true := (show (!s == As.tText) = true from by simpa using n2)
  have a3 : (s == [115, 112, 97, 99, 101]) = false := (show (s == As.tSpace) = false from by simpa using n3)
  have b3 : (!s == [115, 112, 97, 99, 101]) = true := (show (!s == As.tSpace) = true from by simpa using n3)
  have a4 : (s == [97, 108, 105, 103, 110]) = false := (show (s == As.tAlign) = false from by simpa using n4)
  have b4 : (!s == [97, 108, 105, 103, 110]) = true := (show (!s == As.tAlign) = true from by simpa using n4)
  have a5 : (s == [115, 112, 97, 110]) = false := (show (s == As.tSpan) = false from by simpa using n5)
  have b5 : (!s == [115, 112, 97, 110]) = true := (show (!s == As.tSpan) = true from by simpa using n5)
  clear hs n0 n1 n2 n3 n4 n5
  go_enter Tryz.func166, Tryz.ntmps166
  go_wp2_with fail
  go_ret
  exact ⟨rfl, rfl⟩
theorem adata_any {F : Nat → Prop} {w : World} {gx : Nat} {x : As.L} (h : As.Mk F w gx x) (hT : As.Tb F w) (hsh : As.Short x.l) (hl : x.p.length + x.l.length ≤ 700000000) (a : Nat) (ha : a < 4294967296) (s : List UInt8) :
    Calls Tryz.prog 166 #[.pointer (some ⟨gx, 0, none⟩), .string ⟨s.toArray⟩, .int .u32 (a : Int)] w (As.OptPost F w gx (As.data s a x)) := by
  by_cases n0 : s = As.tWord
  · subst n0; exact adata_word h hT hsh hl a ha
  by_cases n1 : s = As.tByte
  · subst n1; exact adata_byte h hT hsh hl a ha
  by_cases n2 : s = As.tText
  · subst n2; exact adata_text h hT hsh hl a ha
  by_cases n3 : s = As.tSpace
  · subst n3; exact adata_space h hT hsh hl a ha
  by_cases n4 : s = As.tAlign
  · subst n4; exact adata_align h hT hsh hl a ha
  by_cases n5 : s = As.tSpan
  · subst n5; exact adata_span h hT hsh hl a ha
  have e : As.data s a x = none := by unfold As.data; rw [if_neg n0, if_neg n1, if_neg n2, if_neg n3, if_neg n4, if_neg n5]
  rw [e]
  exact adata_none s a e
end Go.Proofs.YtfafdkbnmfpbmaaGreatDoor
/- Layer 7: the pieces of a line. -/
namespace Go.Proofs.YtfafdkbnmfpbmaaGreatDoor
open Go.RowKit Kit
set_option linter.unusedVariables false
set_option linter.unusedSimpArgs false

/-- What pieces hands back. -/
def As.PiecesPost (w : World) (r : Option (List As.P)) (e : Ending) (w' : World) : Prop :=
  match r with
  | none => e = .returned (.tuple #[.slice none 0 0, .int .i64 40]) ∧ Below w.heap.size w w'
  | some ps => ∃ v, e = .returned (.tuple #[v, .int .i64 0]) ∧ RdP w.heap.size w' v ps ∧ Below w.heap.size w w'
theorem As.mk_start (w : World) (t : TypeId) (cs : Array Value) (va : Value) (l : List (List UInt8)) (h : RdS w va l) :
    As.Mk (fun k => k = w.heap.size + 1) ((w.alloc (.cells cs t)).alloc (.cells #[va, .bool true, .slice none 0 0] 271)) (w.heap.size + 1) ⟨l, true, []⟩ := by
  have h0 : Below w.heap.size w (w.alloc (.cells cs t)) := (Below.refl _ _).alloc (Nat.le_refl _) _
  have h1 : Below w.heap.size w ((w.alloc (.cells cs t)).alloc (.cells #[va, .bool true, .slice none 0 0] 271)) := h0.alloc (by simp) _
  have hbk := Bk.fresh (w.alloc (.cells cs t)) 271 #[va, .bool true, .slice none 0 0]
  rw [World.size_alloc] at hbk
  refine ⟨⟨va, .slice none 0 0, [], hbk, ⟨h.kept h1, fun g off n c e hn hg => ?_⟩, World.ownsRow_nil _ _ _ _, rfl, fun k hk => by cases hk⟩, rfl, fun k hk => by subst hk; exact hbk.lt⟩
  obtain ⟨_, A', c', e', _, _, h4⟩ := h
  rw [e] at e'
  injection e' with e1 e2 e3
  obtain ⟨g', off', e4, hlt, _⟩ := h4 (by omega)
  rw [← e1] at e4
  injection e4 with e4
  injection e4 with e4 _
  omega
/-- What is read is done. -/
theorem As.tail_of {w w2 w3 : World} {gx : Nat} {y : As.L} (hto : As.To (fun k => k = gx) w2 gx y w3) (hgx : w.heap.size ≤ gx) (hlt : gx < w2.heap.size) (hb : Below w.heap.size w w2) :
    ∃ A c Ap cp, w3.cell? ⟨gx, 0, none⟩ = some (.slice A y.l.length c) ∧ w3.cell? ⟨gx, 1, none⟩ = some (.bool y.ok) ∧ w3.cell? ⟨gx, 2, none⟩ = some (.slice Ap y.p.length cp) ∧ Hid (RdP w.heap.size w3 (.slice Ap y.p.length cp) y.p ∧ Below w.heap.size w w3) := by
  obtain ⟨F', hm, hst⟩ := hto
  have hF : ∀ k, F' k → gx ≤ k := fun k hk => (hst.new k hk).elim (fun e => by omega) (fun e => by omega)
  obtain ⟨vl, vp, h1, h2, h3⟩ := hm.out hF
  obtain ⟨A, c, rfl⟩ := Rd.form h2
  obtain ⟨Ap, cp, rfl⟩ := h3.form
  have hb3 : Below w.heap.size w w3 := hb.trans (hst.below (fun k hk => by omega) hb.size)
  refine ⟨A, c, Ap, cp, h1.cell 0, h1.cell 1, h1.cell 2, Lib.hid ⟨?_, hb3⟩⟩
  obtain ⟨cs, q1, q2, q3⟩ := h3
  exact ⟨cs, q1, fun g off n c e hn => Nat.le_trans hgx (q2 g off n c e hn), q3.map fun u b hu => ⟨hu.1, fun g off n c e hn => Nat.le_trans hgx (hu.2 g off n c e hn)⟩⟩
theorem aname_data {s : List UInt8} (a : Nat) (x : As.L) (h : s = As.tWord ∨ s = As.tByte ∨ s = As.tText ∨ s = As.tSpace ∨ s = As.tAlign ∨ s = As.tSpan) : (As.data s a x).isSome = true := by
  unfold As.data
  rcases h with h | h | h | h | h | h <;> subst h <;> rfl
set_option maxRecDepth 100000 in
set_option maxHeartbeats 8000000 in
theorem apieces_any (vl va : Value) (x : L6.Line) (a : Nat) (w : World) (h : RdS w va x.args) (hT : L6.Tab w) (hvl : ∃ A n c, vl = .slice A n c) (hl : x.args.length ≤ 600000000) (hlo : As.Lo x.args) (ha : a < 4294967296) :
    Calls Tryz.prog 103 #[.agg #[vl, .string ⟨x.word.toArray⟩, va], .int .u32 (a : Int)] w (As.PiecesPost w (As.pieces x a)) := by
  obtain ⟨xl, xw, xa⟩ := x
  obtain ⟨A0, n0, c0', rfl⟩ := hvl
  dsimp only at h hl hlo ⊢
  have hlt := F8.tab_lt hT
  have hal : Below w.heap.size w (w.alloc (.cells #[.slice A0 n0 c0', .string ⟨xw.toArray⟩, va] 50)) := (Below.refl _ _).alloc (Nat.le_refl _) _
  have hbk := Bk.fresh w 50 #[.slice A0 n0 c0', .string ⟨xw.toArray⟩, va]
  by_cases hw : xw = []
  · subst hw
    have HP := Lib.hid (show As.pieces ⟨xl, [], xa⟩ a = some [] from by unfold As.pieces; rw [if_pos rfl])
    have b1 := hbk.cell 1
    have HAL := Lib.hid hal
    clear h hT hl hlo hal hbk hlt
    go_enter Tryz.func103, Tryz.ntmps103
    go_wp2_with fail
    go_ret2
    rw [HP.out]
    exact ⟨_, rfl, RdP.nil _ _, HAL.out⟩
  · have e1 : (xw == ([] : List UInt8)) = false := by simpa using hw
    have e2 : (!xw == ([] : List UInt8)) = true := by simpa using hw
    have e3 : xw.isEmpty = false := by simpa using hw
    have HP := Lib.hid (show As.pieces ⟨xl, xw, xa⟩ a = (match As.read xw a ⟨xa, true, []⟩ with | none => none | some y => As.done y) from by unfold As.pieces; rw [if_neg hw]; rfl)
    have hm := As.mk_start w 50 #[.slice A0 n0 c0', .string ⟨xw.toArray⟩, va] va xa h
    have hal2 : Below w.heap.size w ((w.alloc (.cells #[.slice A0 n0 c0', .string ⟨xw.toArray⟩, va] 50)).alloc (.cells #[va, .bool true, .slice none 0 0] 271)) := hal.alloc (by simp) _
    have hbk2 : Bk ((w.alloc (.cells #[.slice A0 n0 c0', .string ⟨xw.toArray⟩, va] 50)).alloc (.cells #[va, .bool true, .slice none 0 0] 271)) w.heap.size 50 #[.slice A0 n0 c0', .string ⟨xw.toArray⟩, va] := hbk.kept ((Below.refl _ _).alloc (Nat.le_refl _) _)
    have htb : As.Tb (fun k => k = w.heap.size + 1) ((w.alloc (.cells #[.slice A0 n0 c0', .string ⟨xw.toArray⟩, va] 50)).alloc (.cells #[va, .bool true, .slice none 0 0] 271)) := ⟨hT.kept hal2, fun e => by omega⟩
    obtain ⟨AA, cA, rfl⟩ := Rd.form h
    have b0 := hbk.cell 0
    have b1 := hbk.cell 1
    have b2 := hbk.cell 2
    have HM := Lib.hid hm
    have HB2 := Lib.hid hal2
    have HK2 := Lib.hid hbk2
    have HT := Lib.hid htb
    have HSH := Lib.hid (show As.Short xa from fun s hs => Nat.le_trans (hlo s hs) (by decide))
    have HL := Lib.hid hl
    have CB := Lib.hid (fun W => byname_own ⟨xw.toArray⟩ W)
    clear h hT hl hlo hal hal2 hbk hbk2 hm htb hlt hw
    go_enter Tryz.func103, Tryz.ntmps103
    go_wp2_with fail
    obtain ⟨W2, hW2⟩ : ∃ W2, (w.alloc (.cells #[.slice A0 n0 c0', .string ⟨xw.toArray⟩, .slice AA xa.length cA] 50)).alloc (.cells #[.slice AA xa.length cA, .bool true, .slice none 0 0] 271) = W2 := ⟨_, rfl⟩
    rw [hW2] at HM HB2 HK2 HT ⊢
    clear hW2 b0 b1 b2
    have b1 := HK2.out.cell 1
    go_wp2_with fail
    go_at_call 163
    refine (CB.out _).mono ?_
    rintro e w3 ⟨rfl, hb3⟩
    have HM3 := Lib.hid (HM.out.kept hb3)
    have HT3 := Lib.hid (HT.out.kept hb3)
    have HB3 := Lib.hid (show Below w.heap.size w w3 from HB2.out.trans (hb3.mono HB2.out.size))
    have hk3 := HK2.out.kept hb3
    have HK3 := Lib.hid hk3
    have d1 := hk3.cell 1
    clear hb3 hk3
    cases hn : Is.isName ⟨xw.toArray⟩
    · cases hp : As.pseudo xw ⟨xa, true, []⟩ with
      | some y =>
        have CP := Lib.hid (show Calls Tryz.prog 165 #[.pointer (some ⟨w.heap.size + 1, 0, none⟩), .string ⟨xw.toArray⟩] w3 (As.OptPost _ w3 (w.heap.size + 1) (some y)) from by rw [← hp]; exact apseudo_any HM3.out HT3.out HSH.out (Nat.zero_le _) xw)
        have HRD := Lib.hid (show As.read xw a ⟨xa, true, []⟩ = some y from by unfold As.read; rw [if_neg (by rw [hn]; decide), hp])
        clear hn hp
        go_wp2_with fail
        go_at_call 165
        refine CP.out.mono ?_
        rintro e wz ⟨rfl, hto⟩
        obtain ⟨A1, c1, Ap, cp, k0, k1, k2, HZ⟩ := As.tail_of (w := w) hto (Nat.le_succ _) (HM3.out.lt _ HM3.out.gx) HB3.out
        have HQ := Lib.hid (show As.pieces ⟨xl, xw, xa⟩ a = As.done (y) from by rw [HP.out, HRD.out])
        generalize y = y at *
        obtain ⟨yl, yo, yp⟩ := y
        dsimp only at k0 k1 k2 HZ HQ
        clear hto
        cases yo
        · have HR := Lib.hid (show As.pieces ⟨xl, xw, xa⟩ a = none from by rw [HQ.out]; unfold As.done; rw [if_neg (fun e => by cases e.1)])
          go_wp2_with fail
          go_ret2
          rw [HR.out]
          exact ⟨rfl, HZ.out.2⟩
        · cases yl with
          | nil =>
            have HR := Lib.hid (show As.pieces ⟨xl, xw, xa⟩ a = some yp from by rw [HQ.out]; unfold As.done; rw [if_pos ⟨rfl, rfl⟩])
            go_wp2_with fail
            go_ret2
            rw [HR.out]
            exact ⟨_, rfl, HZ.out.1, HZ.out.2⟩
          | cons s t =>
            have HR := Lib.hid (show As.pieces ⟨xl, xw, xa⟩ a = none from by rw [HQ.out]; unfold As.done; rw [if_neg (fun e => by cases e.2)])
            have hpos : (0 : Int) < ((s :: t).length : Int) := by rw [List.length_cons]; omega
            generalize (s :: t).length = ny at *
            go_wp2_with fail
            go_ret2
            rw [HR.out]
            exact ⟨rfl, HZ.out.2⟩
      | none =>
        have CP := Lib.hid (show Calls Tryz.prog 165 #[.pointer (some ⟨w.heap.size + 1, 0, none⟩), .string ⟨xw.toArray⟩] w3 (As.OptPost (fun _ => False) w3 (w.heap.size + 1) none) from apseudo_none xw hp)
        cases hd : As.data xw a ⟨xa, true, []⟩ with
        | some y =>
          have CD := Lib.hid (show Calls Tryz.prog 166 #[.pointer (some ⟨w.heap.size + 1, 0, none⟩), .string ⟨xw.toArray⟩, .int .u32 (a : Int)] w3 (As.OptPost _ w3 (w.heap.size + 1) (some y)) from by rw [← hd]; exact adata_any HM3.out HT3.out HSH.out (by have := HL.out; simp; omega) a ha xw)
          have HRD := Lib.hid (show As.read xw a ⟨xa, true, []⟩ = some y from by unfold As.read; rw [if_neg (by rw [hn]; decide), hp]; exact hd)
          clear hn hp hd
          go_wp2_with fail
          go_at_call 165
          refine CP.out.mono ?_
          rintro e w' ⟨rfl, rfl⟩
          go_wp2_with fail
          go_at_call 166
          refine CD.out.mono ?_
          rintro e wz ⟨rfl, hto⟩
          obtain ⟨A1, c1, Ap, cp, k0, k1, k2, HZ⟩ := As.tail_of (w := w) hto (Nat.le_succ _) (HM3.out.lt _ HM3.out.gx) HB3.out
          have HQ := Lib.hid (show As.pieces ⟨xl, xw, xa⟩ a = As.done (y) from by rw [HP.out, HRD.out])
          generalize y = y at *
          obtain ⟨yl, yo, yp⟩ := y
          dsimp only at k0 k1 k2 HZ HQ
          clear hto
          cases yo
          · have HR := Lib.hid (show As.pieces ⟨xl, xw, xa⟩ a = none from by rw [HQ.out]; unfold As.done; rw [if_neg (fun e => by cases e.1)])
            go_wp2_with fail
            go_ret2
            rw [HR.out]
            exact ⟨rfl, HZ.out.2⟩
          · cases yl with
            | nil =>
              have HR := Lib.hid (show As.pieces ⟨xl, xw, xa⟩ a = some yp from by rw [HQ.out]; unfold As.done; rw [if_pos ⟨rfl, rfl⟩])
              go_wp2_with fail
              go_ret2
              rw [HR.out]
              exact ⟨_, rfl, HZ.out.1, HZ.out.2⟩
            | cons s t =>
              have HR := Lib.hid (show As.pieces ⟨xl, xw, xa⟩ a = none from by rw [HQ.out]; unfold As.done; rw [if_neg (fun e => by cases e.2)])
              have hpos : (0 : Int) < ((s :: t).length : Int) := by rw [List.length_cons]; omega
              generalize (s :: t).length = ny at *
              go_wp2_with fail
              go_ret2
              rw [HR.out]
              exact ⟨rfl, HZ.out.2⟩
        | none =>
          have CD := Lib.hid (show Calls Tryz.prog 166 #[.pointer (some ⟨w.heap.size + 1, 0, none⟩), .string ⟨xw.toArray⟩, .int .u32 (a : Int)] w3 (As.OptPost (fun _ => False) w3 (w.heap.size + 1) none) from adata_none xw a hd)
          have HR := Lib.hid (show As.pieces ⟨xl, xw, xa⟩ a = none from by rw [HP.out]; unfold As.read; rw [if_neg (by rw [hn]; decide), hp]; dsimp only; rw [hd])
          clear hn hp hd
          go_wp2_with fail
          go_at_call 165
          refine CP.out.mono ?_
          rintro e w' ⟨rfl, rfl⟩
          go_wp2_with fail
          go_at_call 166
          refine CD.out.mono ?_
          rintro e w' ⟨rfl, rfl⟩
          go_wp2_with fail
          go_ret2
          rw [HR.out]
          exact ⟨rfl, HB3.out⟩
    · have CI := Lib.hid (ainst_any HM3.out HT3.out HSH.out (Is.found ⟨xw.toArray⟩) (Nat.zero_le _))
      have HRD := Lib.hid (show As.read xw a ⟨xa, true, []⟩ = some (As.inst (Is.found ⟨xw.toArray⟩) ⟨xa, true, []⟩) from by unfold As.read; rw [if_pos hn])
      clear hn
      go_wp2_with fail
      go_at_call 164
      refine CI.out.mono ?_
      rintro e wz ⟨rfl, hto⟩
      obtain ⟨A1, c1, Ap, cp, k0, k1, k2, HZ⟩ := As.tail_of (w := w) hto (Nat.le_succ _) (HM3.out.lt _ HM3.out.gx) HB3.out
      have HQ := Lib.hid (show As.pieces ⟨xl, xw, xa⟩ a = As.done (As.inst (Is.found ⟨xw.toArray⟩) ⟨xa, true, []⟩) from by rw [HP.out, HRD.out])
      generalize As.inst (Is.found ⟨xw.toArray⟩) ⟨xa, true, []⟩ = y at *
      obtain ⟨yl, yo, yp⟩ := y
      dsimp only at k0 k1 k2 HZ HQ
      clear hto
      cases yo
      · have HR := Lib.hid (show As.pieces ⟨xl, xw, xa⟩ a = none from by rw [HQ.out]; unfold As.done; rw [if_neg (fun e => by cases e.1)])
        go_wp2_with fail
        go_ret2
        rw [HR.out]
        exact ⟨rfl, HZ.out.2⟩
      · cases yl with
        | nil =>
          have HR := Lib.hid (show As.pieces ⟨xl, xw, xa⟩ a = some yp from by rw [HQ.out]; unfold As.done; rw [if_pos ⟨rfl, rfl⟩])
          go_wp2_with fail
          go_ret2
          rw [HR.out]
          exact ⟨_, rfl, HZ.out.1, HZ.out.2⟩
        | cons s t =>
          have HR := Lib.hid (show As.pieces ⟨xl, xw, xa⟩ a = none from by rw [HQ.out]; unfold As.done; rw [if_neg (fun e => by cases e.2)])
          have hpos : (0 : Int) < ((s :: t).length : Int) := by rw [List.length_cons]; omega
          generalize (s :: t).length = ny at *
          go_wp2_with fail
          go_ret2
          rw [HR.out]
          exact ⟨rfl, HZ.out.2⟩
end Go.Proofs.YtfafdkbnmfpbmaaGreatDoor
