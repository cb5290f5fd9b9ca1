/- The walk of Compile. -/
import Derived.Test.YtfafdkbnmfpbmaaDoorXcText
import Derived.Test.YtfafdkbnmfpbmaaDoorXcLine
import Derived.Test.YtfafdkbnmfpbmaaDoorL6Parse
namespace Go.Proofs.YtfafdkbnmfpbmaaDoor
open Go.RowKit Go.Shelf Kit
set_option linter.unusedVariables false
set_option linter.unusedSimpArgs false
attribute [local go_sem] Oper.semAt_some

theorem Xc.Lim.lineD {tag : List UInt8} (ht : tag.length ≤ 31) {N : Nat} (hN : N ≤ 50000) : ∀ (n : Nat) {D S1 : Xc.S}, Xc.Lim 0 N D → Xc.line tag n D = .ok S1 → Xc.Lim 0 N S1
  | 0, D, S1, h, e => by cases e
  | n + 1, D, S1, h, e => by
    unfold Xc.line at e
    split at e
    · cases e; exact h.take.less
    rename_i h1
    split at e
    · refine Xc.Lim.lineD ht hN n ?_ e
      have hr := Xc.word_rest D.s
      have hu := Xc.upTo_len 41 (Xc.rest D.s)
      exact h.shrink _ (by omega)
    · cases ho : Xc.one tag (Xc.word D.s) (Xc.atRest (Xc.rest D.s) D) with
      | bad c => rw [ho] at e; cases e
      | stuck => rw [ho] at e; cases e
      | ok S2 =>
        rw [ho] at e
        exact Xc.Lim.lineD ht hN n (h.take.one ht hN (fun x => h1 (.inl x)) ho) e
theorem Xc.fl_line {tag : List UInt8} : ∀ (n : Nat) {D S1 : Xc.S}, Xc.FlW D.words → Xc.line tag n D = .ok S1 → Xc.FlW S1.words
  | 0, D, S1, h, e => by cases e
  | n + 1, D, S1, h, e => by
    unfold Xc.line at e
    split at e
    · cases e; exact h
    split at e
    · exact Xc.fl_line n (D := Xc.atRest (Xc.upTo 41 (Xc.rest D.s)) D) h e
    · cases ho : Xc.one tag (Xc.word D.s) (Xc.atRest (Xc.rest D.s) D) with
      | bad c => rw [ho] at e; cases e
      | stuck => rw [ho] at e; cases e
      | ok S2 =>
        rw [ho] at e
        exact Xc.fl_line n (Xc.one_fl (S := Xc.atRest (Xc.rest D.s) D) h ho) e
theorem Xc.line_bad {tag : List UInt8} : ∀ (n : Nat) {D : Xc.S} {c : Nat}, Xc.line tag n D = .bad c → c = 40 ∨ c = 41 ∨ c = 44
  | 0, D, c, e => by cases e
  | n + 1, D, c, e => by
    unfold Xc.line at e
    split at e
    · cases e
    split at e
    · exact Xc.line_bad n e
    · cases ho : Xc.one tag (Xc.word D.s) (Xc.atRest (Xc.rest D.s) D) with
      | bad c2 => rw [ho] at e; injection e with e; subst e; exact Xc.bad_ne ho
      | stuck => rw [ho] at e; cases e
      | ok S2 => rw [ho] at e; exact Xc.line_bad n e
/-- What Compile answers. -/
def Xc.CPost (w : World) (tag s : List UInt8) (e : Ending) (w' : World) : Prop :=
  (∃ r, Xc.compile tag s = some r ∧ e = .returned (.tuple #[.string ⟨r.1.toArray⟩, .int .i64 (r.2.1 : Int), .int .i64 (r.2.2 : Int)])) ∧ Below w.heap.size w w'
/-- The result cells. -/
structure XRes (h : Nat) (v : List UInt8) (i c : Nat) (X : World) : Prop where
  b0 : Bk X h 9 #[.string ⟨v.toArray⟩]
  b1 : Bk X (h + 1) 3 #[.int .i64 (i : Int)]
  b2 : Bk X (h + 2) 27 #[.int .i64 (c : Int)]
theorem XRes.same {h i c : Nat} {v : List UInt8} {X X' : World} (r : XRes h v i c X) (hk : ∀ g, h ≤ g → g < h + 3 → X'.heap[g]? = X.heap[g]?) : XRes h v i c X' :=
  ⟨(hk _ (by omega) (by omega)).trans r.b0, (hk _ (by omega) (by omega)).trans r.b1, (hk _ (by omega) (by omega)).trans r.b2⟩
def xput3 (X : World) (h : Nat) (v a b : Value) : World := ((X.setCell ⟨h, 0, none⟩ v).setCell ⟨h + 1, 0, none⟩ a).setCell ⟨h + 2, 0, none⟩ b
theorem xput3_other (X : World) (h : Nat) (v a b : Value) (g : Nat) (hg : g < h ∨ h + 3 ≤ g) : (xput3 X h v a b).heap[g]? = X.heap[g]? :=
  ((Below.heap_setCell _ _ _ _ (by show g ≠ h + 2; omega)).trans (Below.heap_setCell _ _ _ _ (by show g ≠ h + 1; omega))).trans (Below.heap_setCell _ _ _ _ (by show g ≠ h; omega))
theorem xput3_size (X : World) (h : Nat) (v a b : Value) : (xput3 X h v a b).heap.size = X.heap.size := by simp [xput3, World.setCell]
theorem xput3_below {X w : World} {h : Nat} {v a b : Value} (hb : Below h w X) : Below h w (xput3 X h v a b) := ((hb.setCell (Nat.le_refl _) _).setCell (by simp) _).setCell (by simp) _
theorem XRes.put3 {h i c i' c' : Nat} {v v' : List UInt8} {X : World} (r : XRes h v i c X) : XRes h v' i' c' (xput3 X h (.string ⟨v'.toArray⟩) (.int .i64 (i' : Int)) (.int .i64 (c' : Int))) := by
  have e0 : ∀ (u x : Value), (#[u] : Array Value).setIfInBounds 0 x = #[x] := fun u x => by simp
  have h1 := r.b0.set 0 (.string ⟨v'.toArray⟩)
  have g1 := (But.setCell X h 0 (.string ⟨v'.toArray⟩)).bk r.b1 (by omega)
  have k1 := (But.setCell X h 0 (.string ⟨v'.toArray⟩)).bk r.b2 (by omega)
  have h2 := (But.setCell _ (h + 1) 0 (.int .i64 (i' : Int))).bk h1 (by omega)
  have g2 := g1.set 0 (.int .i64 (i' : Int))
  have k2 := (But.setCell _ (h + 1) 0 (.int .i64 (i' : Int))).bk k1 (by omega)
  have h3 := (But.setCell _ (h + 2) 0 (.int .i64 (c' : Int))).bk h2 (by omega)
  have g3 := (But.setCell _ (h + 2) 0 (.int .i64 (c' : Int))).bk g2 (by omega)
  have k3 := k2.set 0 (.int .i64 (c' : Int))
  rw [e0] at h3 g3 k3
  exact ⟨h3, g3, k3⟩
theorem xcomp_results {h i c : Nat} {v : List UInt8} {X : World} (r : XRes h v i c X) {t : Array Value} (h2 : t[4]? = some (.pointer (some ⟨h, 0, none⟩))) (h3 : t[5]? = some (.pointer (some ⟨h + 1, 0, none⟩))) (h4 : t[6]? = some (.pointer (some ⟨h + 2, 0, none⟩))) :
    (results Tryd.f24 t).run Tryd.prog X = .ok (.tuple #[.string ⟨v.toArray⟩, .int .i64 (i : Int), .int .i64 (c : Int)]) X := by
  have k0 : X.cell? ⟨h, 0, none⟩ = some (.string ⟨v.toArray⟩) := r.b0.cell 0
  have k1 : X.cell? ⟨h + 1, 0, none⟩ = some (.int .i64 (i : Int)) := r.b1.cell 0
  have k2 : X.cell? ⟨h + 2, 0, none⟩ = some (.int .i64 (c : Int)) := r.b2.cell 0
  simp [results, Tryd.f24, go_sem, h2, h3, h4, k0, k1, k2]
/-- Stores in unlike blocks. -/
theorem setCell_swap (w : World) (g g' i i' : Nat) (u u' : Value) (h : g ≠ g') : (w.setCell ⟨g, i, none⟩ u).setCell ⟨g', i', none⟩ u' = (w.setCell ⟨g', i', none⟩ u').setCell ⟨g, i, none⟩ u := by
  unfold World.setCell
  simp only
  congr 1
  apply Array.ext_getElem?
  intro k
  simp only [Array.getElem?_modify]
  by_cases h1 : g = k
  · subst h1
    have h2 : ¬ g' = g := fun e => h e.symm
    simp [h2]
  · by_cases h2 : g' = k
    · subst h2; simp [h1]
    · simp [h1, h2]
/-- The three stores, in any order. -/
theorem xput3_perm (X : World) (h : Nat) (v a b : Value) :
    ((X.setCell ⟨h, 0, none⟩ v).setCell ⟨h + 2, 0, none⟩ b).setCell ⟨h + 1, 0, none⟩ a = xput3 X h v a b ∧
    ((X.setCell ⟨h + 1, 0, none⟩ a).setCell ⟨h, 0, none⟩ v).setCell ⟨h + 2, 0, none⟩ b = xput3 X h v a b ∧
    ((X.setCell ⟨h + 1, 0, none⟩ a).setCell ⟨h + 2, 0, none⟩ b).setCell ⟨h, 0, none⟩ v = xput3 X h v a b ∧
    ((X.setCell ⟨h + 2, 0, none⟩ b).setCell ⟨h, 0, none⟩ v).setCell ⟨h + 1, 0, none⟩ a = xput3 X h v a b ∧
    ((X.setCell ⟨h + 2, 0, none⟩ b).setCell ⟨h + 1, 0, none⟩ a).setCell ⟨h, 0, none⟩ v = xput3 X h v a b := by
  have e1 : h ≠ h + 1 := by omega
  have e2 : h ≠ h + 2 := by omega
  have e3 : h + 1 ≠ h + 2 := by omega
  unfold xput3
  refine ⟨?_, ?_, ?_, ?_, ?_⟩
  · rw [setCell_swap _ (h + 2) (h + 1) _ _ _ _ e3.symm]
  · rw [setCell_swap _ (h + 1) h _ _ _ _ e1.symm]
  · rw [setCell_swap _ (h + 2) h _ _ _ _ e2.symm, setCell_swap _ (h + 1) h _ _ _ _ e1.symm]
  · rw [setCell_swap _ (h + 2) h _ _ _ _ e2.symm, setCell_swap _ (h + 2) (h + 1) _ _ _ _ e3.symm]
  · rw [setCell_swap _ (h + 1) h _ _ _ _ e1.symm, setCell_swap _ (h + 2) h _ _ _ _ e2.symm, setCell_swap _ (h + 2) (h + 1) _ _ _ _ e3.symm]
theorem Bk.al {W : World} {g : Nat} {t : TypeId} {cs : Array Value} (h : Bk W g t cs) (o : Obj) : Bk (W.alloc o) g t cs := h.kept ((Below.refl _ _).alloc (Nat.le_refl _) _)
/-- Seven blocks and one more. -/
theorem alloc8 (w : World) (c0 c1 c2 c3 c4 c5 c6 c7 : Array Value) (t0 t1 t2 t3 t4 t5 t6 t7 : TypeId) {W : World} (hW : (((((((((w.alloc (.cells c0 t0)).alloc (.cells c1 t1)).alloc (.cells c2 t2)).alloc (.cells c3 t3)).alloc (.cells c4 t4)).alloc (.cells c5 t5)).alloc (.cells c6 t6)).alloc (.cells c7 t7))) = W) :
    Bk W w.heap.size t0 c0 ∧ Bk W (w.heap.size + 1) t1 c1 ∧ Bk W (w.heap.size + 2) t2 c2 ∧ Bk W (w.heap.size + 3) t3 c3 ∧ Bk W (w.heap.size + 4) t4 c4 ∧ Bk W (w.heap.size + 5) t5 c5 ∧ Bk W (w.heap.size + 6) t6 c6 ∧ Bk W (w.heap.size + 7) t7 c7 ∧ Below w.heap.size w W ∧ W.heap.size = w.heap.size + 8 := by
  subst hW
  have b0 := Bk.fresh w t0 c0
  have b1 := Bk.fresh (w.alloc (.cells c0 t0)) t1 c1
  have b2 := Bk.fresh ((w.alloc (.cells c0 t0)).alloc (.cells c1 t1)) t2 c2
  have b3 := Bk.fresh (((w.alloc (.cells c0 t0)).alloc (.cells c1 t1)).alloc (.cells c2 t2)) t3 c3
  have b4 := Bk.fresh ((((w.alloc (.cells c0 t0)).alloc (.cells c1 t1)).alloc (.cells c2 t2)).alloc (.cells c3 t3)) t4 c4
  have b5 := Bk.fresh (((((w.alloc (.cells c0 t0)).alloc (.cells c1 t1)).alloc (.cells c2 t2)).alloc (.cells c3 t3)).alloc (.cells c4 t4)) t5 c5
  have b6 := Bk.fresh ((((((w.alloc (.cells c0 t0)).alloc (.cells c1 t1)).alloc (.cells c2 t2)).alloc (.cells c3 t3)).alloc (.cells c4 t4)).alloc (.cells c5 t5)) t6 c6
  have b7 := Bk.fresh (((((((w.alloc (.cells c0 t0)).alloc (.cells c1 t1)).alloc (.cells c2 t2)).alloc (.cells c3 t3)).alloc (.cells c4 t4)).alloc (.cells c5 t5)).alloc (.cells c6 t6)) t7 c7
  simp only [World.size_alloc] at b1 b2 b3 b4 b5 b6 b7
  refine ⟨Bk.al (Bk.al (Bk.al (Bk.al (Bk.al (Bk.al (Bk.al b0 _) _) _) _) _) _) _, Bk.al (Bk.al (Bk.al (Bk.al (Bk.al (Bk.al b1 _) _) _) _) _) _, Bk.al (Bk.al (Bk.al (Bk.al (Bk.al b2 _) _) _) _) _, Bk.al (Bk.al (Bk.al (Bk.al b3 _) _) _) _, Bk.al (Bk.al (Bk.al b4 _) _) _, Bk.al (Bk.al b5 _) _, Bk.al b6 _, b7, ?_, by simp⟩
  exact ((((((((Below.refl _ _).alloc (Nat.le_refl _) _).alloc (by simp) _).alloc (by simp; omega) _).alloc (by simp; omega) _).alloc (by simp; omega) _).alloc (by simp; omega) _).alloc (by simp; omega) _).alloc (by simp; omega) _
/-- Between two rounds of Compile's loop. -/
structure XA (s0 tag : List UInt8) (w : World) (rec : LoopState → Option Code → Loop) (st : LoopState) (k : Nat) (s : List UInt8) (X : World) : Prop where
  obj : ∃ F S, Xc.Mk F X (w.heap.size + 3) tag S ∧ (∀ j, F j → j = w.heap.size + 3 ∨ w.heap.size + 10 ≤ j) ∧ Xc.comp tag 0 Xc.start (L6.split s0) = Xc.comp tag k S (L6.split s) ∧ Xc.Lim 0 (s0.length - s.length) S ∧ Xc.FlW S.words
  num : k + (L6.split s).length = (L6.split s0).length
  slen : s.length ≤ s0.length
  tab : L6.Tab X
  p : Bk X (w.heap.size + 4) 76 #[.pointer (some ⟨w.heap.size + 3, 0, none⟩)]
  n : Bk X (w.heap.size + 5) 3 #[.int .i64 (k : Int)]
  a : Bk X (w.heap.size + 6) 4 #[.bool false]
  res : XRes w.heap.size [] 0 0 X
  db : X.heap[w.heap.size + 8]? = some (.deferred (some []))
  rb : X.heap[w.heap.size + 9]? = some (.loop (rec st none))
  below : Below w.heap.size w X
structure XX (s0 tag : List UInt8) (w : World) (rec : LoopState → Option Code → Loop) (X : World) : Prop where
  res : ∃ i c, XRes w.heap.size [] i c X ∧ Xc.comp tag 0 Xc.start (L6.split s0) = .bad i c
  db : X.heap[w.heap.size + 8]? = some (.deferred (some []))
  rb : X.heap[w.heap.size + 9]? = some (.loop (rec .done (some .ret)))
  below : Below w.heap.size w X
theorem Xc.tab_two {A B : Nat} {w w' : World} (h : L6.Tab w) (hw : ∀ g, g < A → w'.heap[g]? = w.heap[g]?) (hA : 1 < A) : L6.Tab w' := by
  unfold L6.Tab Lib.TabIs at *
  unfold World.var? at *
  rw [L6.tab_named] at *
  simp only [Option.bind_some] at *
  rw [hw _ hA]
  exact h
/-- Other blocks than these change. -/
theorem XA.but {s0 tag : List UInt8} {w : World} {rec : LoopState → Option Code → Loop} {st : LoopState} {k : Nat} {s : List UInt8} {X X' : World} (h : XA s0 tag w rec st k s X) (hT : 1 < w.heap.size)
    (hf : Fr (fun j => j = w.heap.size + 7) X X') : XA s0 tag w rec st k s X' := by
  obtain ⟨⟨F, S, h1, h2, h3, h4, h5⟩, hn, hs, ht, hp, hnb, ha, hr, hd, hb, hw⟩ := h
  have hz := (Array.getElem?_eq_some_iff.1 hb).1
  have hk : ∀ g, g < w.heap.size + 10 → g ≠ w.heap.size + 7 → X'.heap[g]? = X.heap[g]? := fun g h1 h2 => hf.block g (by omega) h2
  refine ⟨⟨F, S, h1.fr hf (fun j hj e => ?_), h2, h3, h4, h5⟩, hn, hs, Xc.tab_fr ht hf (by show ¬ _ = _; omega), (hk _ (by omega) (by omega)).trans hp, (hk _ (by omega) (by omega)).trans hnb, (hk _ (by omega) (by omega)).trans ha, hr.same (fun g _ _ => hk g (by omega) (by omega)), (hk _ (by omega) (by omega)).trans hd, (hk _ (by omega) (by omega)).trans hb, ?_⟩
  · rcases h2 j hj with e' | e' <;> omega
  · exact hw.trans (hf.below (fun j e => by omega) (by omega))
theorem Xc.start_mk (w : World) (tag : List UInt8) : Xc.Mk (fun j => j = w.heap.size) (w.alloc (.cells (Xc.cells Xc.start tag (.slice none 0 0) (.slice none 0 0)) 82)) w.heap.size tag Xc.start :=
  ⟨⟨.slice none 0 0, .slice none 0 0, [], Bk.fresh w _ _, World.ownsRow_nil _ _ _ _, rfl, List.nodup_nil, World.ownsRow_nil _ _ _ _, fun k hk => (by cases hk), fun k hk => (by cases hk), fun k hk => (by simp [Xc.blks] at hk)⟩, rfl, fun k hk => by subst hk; simp⟩
theorem Xc.start_lim (n : Nat) : Xc.Lim 0 n Xc.start := ⟨by simp [Xc.start, Xc.weight], by simp [Xc.start], by simp [Xc.start], by simp [Xc.start], fun p hp => by simp [Xc.start] at hp, fun h => by cases h⟩
/-- The compiler's words are read. -/
theorem Xc.Mk.words {F : Nat → Prop} {W : World} {gm : Nat} {tag : List UInt8} {S : Xc.S} (h : Xc.Mk F W gm tag S) : ∃ vw, W.cell? ⟨gm, 2, none⟩ = some vw ∧ RdW W vw S.words := by
  obtain ⟨vw, vo, cs, h1, h2, h3, _⟩ := h.obj
  refine ⟨vw, (h1.cell 2).trans (by simp [Xc.cells]), cs, Rd.of_own h2, ?_⟩
  exact h3.mapIf (P := fun _ => True) (fun u l _ hu => OwnS.rd hu) (fun _ _ => trivial)
theorem XA.busy {s0 tag : List UInt8} {w : World} {rec : LoopState → Option Code → Loop} {st st' : LoopState} {k : Nat} {s : List UInt8} {X : World} (h : XA s0 tag w rec st k s X) (hT : 1 < w.heap.size) : XA s0 tag w rec st' k s (X.putObj (w.heap.size + 9) (.loop (rec st' none))) := by
  obtain ⟨⟨F, S, h1, h2, h3, h4, h5⟩, hn, hs, ht, hp, hnb, ha, hr, hd, hb, hw⟩ := h
  have hz := (Array.getElem?_eq_some_iff.1 hb).1
  have hk : ∀ g, g ≠ w.heap.size + 9 → (X.putObj (w.heap.size + 9) (.loop (rec st' none))).heap[g]? = X.heap[g]? := fun g hg => World.putObj_heap_other hg
  have hf : Fr (fun j => j = w.heap.size + 9) X (X.putObj (w.heap.size + 9) (.loop (rec st' none))) := ⟨rfl, rfl, rfl, by rw [World.putObj_size]; exact Nat.le_refl _, fun g _ hg => hk g hg⟩
  exact ⟨⟨F, S, h1.fr hf (fun j hj e => by rcases h2 j hj with e' | e' <;> omega), h2, h3, h4, h5⟩, hn, hs, Xc.tab_fr ht hf (by show ¬ _ = _; omega), (hk _ (by omega)).trans hp, (hk _ (by omega)).trans hnb, (hk _ (by omega)).trans ha, hr.same (fun g _ _ => hk g (by omega)), (hk _ (by omega)).trans hd, World.putObj_heap_same hz, Below.put hw _ _ (by omega)⟩
/-- A round leaves. -/
theorem XA.stop {s0 tag : List UInt8} {w : World} {rec : LoopState → Option Code → Loop} {i c : Nat} {Y Z : World} (hr : XRes w.heap.size [] 0 0 Z) (hd : Z.heap[w.heap.size + 8]? = some (.deferred (some []))) (hb : Z.heap[w.heap.size + 9]? = some (.loop (rec .busy none))) (hw : Below w.heap.size w Z)
    (hc : Xc.comp tag 0 Xc.start (L6.split s0) = .bad i c) (hY : xput3 Z w.heap.size (.string ⟨#[]⟩) (.int .i64 (i : Int)) (.int .i64 (c : Int)) = Y) :
    Y.drew.heap[w.heap.size + 9]? = some (.loop (rec .busy none)) ∧ XX s0 tag w rec (Y.drew.putObj (w.heap.size + 9) (.loop (rec .done (some .ret)))) := by
  subst hY
  have h9 := (xput3_other Z w.heap.size (.string ⟨#[]⟩) (.int .i64 (i : Int)) (.int .i64 (c : Int)) (w.heap.size + 9) (by omega)).trans hb
  have h8 := (xput3_other Z w.heap.size (.string ⟨#[]⟩) (.int .i64 (i : Int)) (.int .i64 (c : Int)) (w.heap.size + 8) (by omega)).trans hd
  have hr' : XRes w.heap.size [] i c _ := hr.put3 (v' := []) (i' := i) (c' := c)
  have hbl : Below w.heap.size w (xput3 Z w.heap.size (.string ⟨#[]⟩) (.int .i64 (i : Int)) (.int .i64 (c : Int))).drew := (xput3_below hw).drew
  refine ⟨h9, ⟨i, c, hr'.same (fun g _ _ => World.putObj_heap_other (w := World.drew _) (by omega)), hc⟩, (World.putObj_heap_other (w := World.drew _) (by omega)).trans h8, World.putObj_heap_same (w := World.drew _) (Array.getElem?_eq_some_iff.1 h9).1, Below.put hbl _ _ (by omega)⟩
/-- A round goes on. -/
theorem XA.more {s0 tag : List UInt8} {w : World} {rec : LoopState → Option Code → Loop} {k : Nat} {s' : List UInt8} {S1 : Xc.S} {F F' : Nat → Prop} {Y Z : World} (hT : 1 < w.heap.size) (hF : ∀ j, F j → j = w.heap.size + 3 ∨ w.heap.size + 10 ≤ j) (hz : w.heap.size + 10 ≤ Y.heap.size)
    (ht : L6.Tab Y) (hp : Bk Y (w.heap.size + 4) 76 #[.pointer (some ⟨w.heap.size + 3, 0, none⟩)]) (hn : Bk Y (w.heap.size + 5) 3 #[.int .i64 ((k + 1 : Nat) : Int)]) (ha : Bk Y (w.heap.size + 6) 4 #[.bool false]) (hbs : Bk Y (w.heap.size + 7) 9 (L6.bx s'))
    (hr : XRes w.heap.size [] 0 0 Y) (hd : Y.heap[w.heap.size + 8]? = some (.deferred (some []))) (hb : Y.heap[w.heap.size + 9]? = some (.loop (rec .busy none))) (hw : Below w.heap.size w Y)
    (hm : Xc.Mk F' Z (w.heap.size + 3) tag S1) (hs : Step F Y F' Z) (hc : Xc.comp tag 0 Xc.start (L6.split s0) = Xc.comp tag (k + 1) S1 (L6.split s')) (hl : Xc.Lim 0 (s0.length - s'.length) S1) (hf : Xc.FlW S1.words) (hnum : k + 1 + (L6.split s').length = (L6.split s0).length) (hsl : s'.length ≤ s0.length) :
    Z.heap[w.heap.size + 9]? = some (.loop (rec .busy none)) ∧ XA s0 tag w rec .ready (k + 1) s' (Z.putObj (w.heap.size + 9) (.loop (rec .ready none))) ∧ Bk (Z.putObj (w.heap.size + 9) (.loop (rec .ready none))) (w.heap.size + 7) 9 (L6.bx s') := by
  have hk : ∀ g, g < w.heap.size + 10 → g ≠ w.heap.size + 3 → Z.heap[g]? = Y.heap[g]? := fun g h1 h2 => hs.fr.block g (by omega) (fun e => by rcases hF g e with e | e <;> omega)
  have hFt : ¬ F 1 := fun e => by rcases hF _ e with e | e <;> omega
  have hF' : ∀ j, F' j → j = w.heap.size + 3 ∨ w.heap.size + 10 ≤ j := fun j hj => (hs.new j hj).elim (hF j) (fun e => .inr (by omega))
  have hA : XA s0 tag w rec .busy (k + 1) s' Z := ⟨⟨F', S1, hm, hF', hc, hl, hf⟩, hnum, hsl, Xc.tab_fr ht hs.fr hFt, (hk _ (by omega) (by omega)).trans hp, (hk _ (by omega) (by omega)).trans hn, (hk _ (by omega) (by omega)).trans ha, hr.same (fun g h1 h2 => hk g (by omega) (by omega)),
    (hk _ (by omega) (by omega)).trans hd, (hk _ (by omega) (by omega)).trans hb, hw.trans (hs.below (fun j hj => by rcases hF j hj with e | e <;> omega) (by omega))⟩
  exact ⟨hA.rb, hA.busy hT, (World.putObj_heap_other (by omega)).trans ((hk _ (by omega) (by omega)).trans hbs)⟩
theorem Xc.comp_cons {tag t : List UInt8} {n : Nat} {S : Xc.S} {r : List (List UInt8)} (h : Xc.comp tag n S (t :: r) ≠ .stuck) : ¬ (S.within = false ∧ S.number = [] ∧ Xc.alone t Xc.tAsm = true) ∧ Xc.line tag (t.length + 1) (Xc.atRest t S) ≠ .stuck ∧
    Xc.comp tag n S (t :: r) = match Xc.line tag (t.length + 1) (Xc.atRest t S) with | .ok S1 => Xc.comp tag (n + 1) S1 r | .bad e => .bad (n + 1) e | .stuck => .stuck := by
  unfold Xc.comp at h
  split at h
  · exact absurd rfl h
  · rename_i h1
    refine ⟨h1, fun e => ?_, by rw [Xc.comp, if_neg h1]; cases Xc.line tag (t.length + 1) (Xc.atRest t S) <;> rfl⟩
    rw [e] at h
    exact h rfl
theorem Xc.keep3 {F F3 : Nat → Prop} {w Y Y2 W3 : World} (hF : ∀ j, F j → j = w.heap.size + 3 ∨ w.heap.size + 10 ≤ j) (hz : w.heap.size + 10 ≤ Y.heap.size) (hb : Below Y.heap.size Y Y2) (st : Step F Y2 F3 W3) : ∀ g, g < w.heap.size + 10 → g ≠ w.heap.size + 3 → W3.heap[g]? = Y.heap[g]? := fun g h1 h2 =>
  (st.fr.block g (by have := hb.size; omega) (fun e => by rcases hF g e with e | e <;> omega)).trans (hb.block g (by omega))
theorem Xc.Lim.up {j N M : Nat} {S : Xc.S} (h : Xc.Lim j N S) (hM : N ≤ M) : Xc.Lim j M S := ⟨by have := h.weight; omega, by have := h.opens; omega, by have := h.made; omega, h.name, h.labs, h.has⟩
theorem Xc.compile_some {tag s : List UInt8} (h : Xc.compile tag s ≠ none) : Xc.comp tag 0 Xc.start (L6.split s) ≠ .stuck := by
  unfold Xc.compile at h
  intro e
  rw [e] at h
  exact h rfl
set_option maxRecDepth 100000 in
set_option maxHeartbeats 2000000 in
theorem xcompile_any (s : List UInt8) (w : World) (hs : s.length ≤ 30000) (hT : L6.Tab w) (hns : Xc.compile [76] s ≠ none) : Calls Tryd.prog 24 #[.string ⟨s.toArray⟩, .string ⟨#[76]⟩] w (Xc.CPost w [76] s) := by
  refine (callsIn_wide (n := 20)).1 ?_
  refine callsIn_of_wp_marks Tryd.func24 rfl trivial ?_ rfl
  simp only [Tryd.ntmps24, List.size_toArray, List.length_cons, List.length_nil, Nat.reduceAdd, Nat.reduceSub, Array.replicate_succ, Array.replicate_zero, List.push_toArray, List.append_toArray, List.nil_append, List.cons_append]
  have HS := Lib.hid hs
  have HNS := Lib.hid hns
  have HT := Lib.hid hT
  clear hs hns hT
  have mixed : Tryd.prog.follows .mixedOrders = true := by kernel_rfl
  have CR := Lib.hid (fun W => (xright_own ⟨#[76]⟩ W (by decide)).mono (R' := fun e w' => e = .returned (.bool true) ∧ W = w') (fun e w' h => ⟨h.1, h.2⟩))
  gi_upto_region 5 with (refine ⟨trivial, ?_⟩; gi_at_call 40; refine (callsIn_wide.2 (CR.out _)).mono ?_; rintro e w' ⟨rfl, rfl⟩)
  simp only [Nat.add_assoc, Nat.reduceAdd]
  gi_wp2_with (refine ⟨trivial, ?_⟩; gi_at_call 41; refine (lines_in _ s _).mono ?_; rintro e w' ⟨rfl, rfl⟩)
  generalize hW1 : World.alloc _ _ = W1
  obtain ⟨b0, b1, b2, b3, b4, b5, b6, b7, bw, bz⟩ := alloc8 w _ _ _ _ _ _ _ _ _ _ _ _ _ _ _ _ hW1
  clear hW1
  have hlt := F8.tab_lt HT.out
  have hT1 := HT.out.kept bw
  have hMk : Xc.Mk (fun j => j = w.heap.size + 3) W1 (w.heap.size + 3) [76] Xc.start :=
    ⟨⟨.slice none 0 0, .slice none 0 0, [], b3, World.ownsRow_nil _ _ _ _, rfl, List.nodup_nil, World.ownsRow_nil _ _ _ _, fun k hk => (by cases hk), fun k hk => (by cases hk), fun k hk => (by simp [Xc.blks] at hk)⟩, rfl, fun k hk => by subst hk; omega⟩
  have hRes : XRes w.heap.size [] 0 0 W1 := ⟨b0, b1, b2⟩
  clear b0 b1 b2 b3
  refine range_at (gf := 76) (lb := #[.pointer (some ⟨w.heap.size + 7, 0, none⟩)]) rfl (enters_of Tryd.func76 (by kernel_rfl) rfl)
    (fun fn X => ∃ k rec, XA s [76] w rec .ready k [] X) (fun fn c X => ∃ rec, XX s [76] w rec X ∧ c = .ret) ?call ?done ?stop
  case done =>
    rintro fn X ⟨k, rec, h⟩
    rw [bz]
    generalize hex : X.putObj (w.heap.size + 8 + 1) _ = X'
    have hx : ∀ g, g ≠ w.heap.size + 9 → X'.heap[g]? = X.heap[g]? := fun g hg => by rw [← hex]; exact World.putObj_heap_other hg
    have hf9 : Fr (fun j => j = w.heap.size + 9) X X' := by
      rw [← hex]
      exact ⟨rfl, rfl, rfl, by rw [World.putObj_size]; exact Nat.le_refl _, fun g _ hg => World.putObj_heap_other hg⟩
    have hbw : Below w.heap.size w X' := by rw [← hex]; exact Below.put h.below _ _ (by omega)
    obtain ⟨⟨F, S, hm, hF, hc, hl, hfl⟩, hn, hsl, ht, hp, hnb, ha, hres, hd, hrb, hw⟩ := h
    have hm' := hm.fr hf9 (fun j hj e => by rcases hF j hj with e' | e' <;> omega)
    have ht' := Xc.tab_fr ht hf9 (by show ¬ _ = _; omega)
    have hxb : ∀ {g : Nat} {ty : TypeId} {cs : Array Value}, g ≠ w.heap.size + 9 → Bk X g ty cs → Bk X' g ty cs := fun hg hb => (hx _ hg).trans hb
    have c4 := (hxb (by omega) hp).cell 0
    have c5 := (hxb (by omega) hnb).cell 0
    have c6 := (hxb (by omega) ha).cell 0
    have hr' := hres.same (X' := X') (fun g _ _ => hx g (by omega))
    have hd' := (hx (w.heap.size + 8) (by omega)).trans hd
    have z0 := hr'.b0.cell 0
    have y0 := hr'.b0.free 0
    have z1 := hr'.b1.cell 0
    have y1 := hr'.b1.free 0
    have z2 := hr'.b2.cell 0
    have y2 := hr'.b2.free 0
    have hsn := hm'.seen
    have d3 := hsn.c3
    have d7 := hsn.c7
    have hkn : k ≤ 30001 := by
      have h1 := L6.split_len s
      have h2 : s.count 10 ≤ s.length := List.count_le_length
      have h3 : (L6.split s).length ≤ s.count 10 + 1 := by rw [h1]; split <;> omega
      have hsz := HS.out
      omega
    have hw1 : IntKind.i64.wrap ((k : Int) + 1) = (k : Int) + 1 := by rw [IntKind.wrap_i64]; omega
    have hlt8 := (Array.getElem?_eq_some_iff.1 hd').1
    simp only [List.getElem?_toArray, List.getElem?_cons_zero] at c4 c5 c6 z0 z1 z2
    rw [show L6.split [] = [] from rfl] at hc
    rw [Xc.comp] at hc
    have HR := Lib.hid hr'
    have HD := Lib.hid hd'
    have HBW := Lib.hid hbw
    have HFE := Lib.hid (fun (i c : Nat) (Y : World) (hY : xput3 X' w.heap.size (.string ⟨#[]⟩) (.int .i64 (i : Int)) (.int .i64 (c : Int)) = Y) => show Y.drew.heap[w.heap.size + 8]? = some (.deferred (some [])) ∧ XRes w.heap.size [] i c Y.drew ∧ Below w.heap.size w Y.drew from by
      subst hY
      exact ⟨(xput3_other _ _ _ _ _ _ (by omega)).trans hd', (hr'.put3 (v' := []) (i' := i) (c' := c)).same (fun g _ _ => rfl), (xput3_below hbw).drew⟩)
    clear hex hx hf9 hbw hm hp hnb ha hres hd hrb hw hn hxb ht hsn hr' hd'
    cases hwi : S.within
    · rw [hwi, if_neg (by decide)] at hc
      rw [hwi] at d3
      by_cases hnu : S.number = []
      · rw [hnu, if_neg (by simp)] at hc
        rw [hnu] at d7
        obtain ⟨vw, hv2, hrd⟩ := hm'.words
        have HRW := Lib.hid hrd
        have CT := Lib.hid (xtext_any vw S.words X' hrd (by have := hl.weight; have := HS.out; simp at this ⊢; omega) hfl)
        have HC := Lib.hid hc
        clear hwi hnu hm' ht' hl hfl hF hc hrd
        obtain ⟨AW, cW, rfl⟩ := HRW.out.len
        gi_wp2_with (refine ⟨trivial, ?_⟩; gi_at_call 46; refine (callsIn_wide.2 CT.out).mono ?_; rintro e W3 ⟨rfl, hb3⟩; have HB3 := Lib.hid hb3; have hres3 := HR.out.same (X' := W3) (fun g _ _ => hb3.block g (by omega)); have z0 := hres3.b0.cell 0; have y0 := hres3.b0.free 0; have z1 := hres3.b1.cell 0; have y1 := hres3.b1.free 0; have z2 := hres3.b2.cell 0; have y2 := hres3.b2.free 0; simp only [List.getElem?_toArray, List.getElem?_cons_zero] at z0 z1 z2; have HR3 := Lib.hid hres3; clear hb3 hres3)
        have HX := Lib.hid (show XRes w.heap.size (Xc.text S.words) 0 0 (xput3 W3 w.heap.size (.string ⟨(Xc.text S.words).toArray⟩) (.int .i64 ((0 : Nat) : Int)) (.int .i64 ((0 : Nat) : Int))) from HR3.out.put3)
        refine ⟨by simp, .inl ⟨_, _, rfl, run_takeDeferred (((xput3_other W3 w.heap.size _ _ _ _ (by omega)).trans (HB3.out.block _ (by omega))).trans HD.out), ?_⟩⟩
        exact ⟨_, xcomp_results (HX.out.same (fun g _ _ => World.putObj_heap_other (by omega))) rfl rfl rfl, ⟨(Xc.text S.words, 0, 0), by unfold Xc.compile; rw [HC.out], rfl⟩, Below.put (xput3_below (HBW.out.trans (HB3.out.mono HBW.out.size))) _ _ (by omega)⟩
      · rw [if_pos hnu] at hc
        have g7 : (S.number == ([] : List UInt8)) = false := by simpa using hnu
        have g7b : (S.number != ([] : List UInt8)) = true := by simpa using hnu
        have g7c : (!S.number == ([] : List UInt8)) = true := by simpa using hnu
        have HC := Lib.hid hc
        have HE := Lib.hid (HFE.out (k + 1) 40)
        clear hwi hnu hm' ht' hl hfl hF hc
        gi_wp2_with fail
        gi_region_o
        all_goals gi_wp2_with fail
        all_goals refine ⟨by simp, .inl ⟨_, _, rfl, run_takeDeferred (HE.out _ rfl).1, ?_⟩⟩
        all_goals exact ⟨_, xcomp_results ((HE.out _ rfl).2.1.same (fun g _ _ => World.putObj_heap_other (by omega))) rfl rfl rfl, ⟨([], k + 1, 40), by unfold Xc.compile; rw [HC.out], rfl⟩, Below.put (HE.out _ rfl).2.2 _ _ (by omega)⟩
    · rw [hwi, if_pos rfl] at hc
      rw [hwi] at d3
      have HC := Lib.hid hc
      have HE := Lib.hid (HFE.out (k + 1) 44)
      clear hwi hm' ht' hl hfl hF hc
      gi_wp2_with fail
      gi_region_o
      all_goals gi_wp2_with fail
      all_goals refine ⟨by simp, .inl ⟨_, _, rfl, run_takeDeferred (HE.out _ rfl).1, ?_⟩⟩
      all_goals exact ⟨_, xcomp_results ((HE.out _ rfl).2.1.same (fun g _ _ => World.putObj_heap_other (by omega))) rfl rfl rfl, ⟨([], k + 1, 44), by unfold Xc.compile; rw [HC.out], rfl⟩, Below.put (HE.out _ rfl).2.2 _ _ (by omega)⟩
  case stop =>
    rintro fn c X ⟨rec, h, rfl⟩
    rw [bz]
    gi_wp2
    refine ⟨by simp, .inl ⟨_, _, rfl, run_takeDeferred ((World.putObj_heap_other (by omega)).trans h.db), ?_⟩⟩
    obtain ⟨i, c, hr, hp⟩ := h.res
    refine ⟨_, xcomp_results ((hr.same (X' := X.putObj (w.heap.size + 9) _) (fun g _ _ => World.putObj_heap_other (by omega))).same (fun g _ _ => World.putObj_heap_other (by omega))) rfl rfl rfl, ⟨([], i, c), by unfold Xc.compile; rw [hp], rfl⟩, Below.put (Below.put h.below _ _ (by omega)) _ _ (by omega)⟩
  case call =>
    intro fn
    rw [bz]
    generalize hrec : (rec_ fn _ _ _ _ (w.heap.size + 8)) = rec
    show CallsIn Fence.wide 19 Tryd.prog 76 #[.func (.yield (w.heap.size + 9)) #[] #[], .pointer (some ⟨w.heap.size + 7, 0, none⟩)] _ _
    have hbw3 : Below W1.heap.size W1 ((W1.alloc (.deferred (some []))).alloc (.loop (rec .ready none))) := ((Below.refl _ _).alloc (Nat.le_refl _) _).alloc (by simp) _
    have hd3 : ((W1.alloc (.deferred (some []))).alloc (.loop (rec .ready none))).heap[w.heap.size + 8]? = some (.deferred (some [])) := by
      have := (Below.heap_alloc (W1.alloc (.deferred (some []))) (.loop (rec .ready none)) W1.heap.size (by simp)).trans (World.alloc_heap_new W1 _)
      rwa [bz] at this
    have hr3 : ((W1.alloc (.deferred (some []))).alloc (.loop (rec .ready none))).heap[w.heap.size + 9]? = some (.loop (rec .ready none)) := by
      have := World.alloc_heap_new (W1.alloc (.deferred (some []))) (.loop (rec .ready none))
      rwa [World.size_alloc, bz] at this
    have hXA : XA s [76] w rec .ready 0 s ((W1.alloc (.deferred (some []))).alloc (.loop (rec .ready none))) :=
      ⟨⟨_, Xc.start, hMk.kept hbw3, fun j hj => .inl hj, rfl, by simpa using (⟨by simp [Xc.start, Xc.weight], by simp [Xc.start], by simp [Xc.start], by simp [Xc.start], fun p hp => by simp [Xc.start] at hp, fun h => by cases h⟩ : Xc.Lim 0 0 Xc.start), fun x hx => by simp [Xc.start] at hx⟩, by simp, Nat.le_refl _, hT1.kept hbw3, b4.kept hbw3, b5.kept hbw3, b6.kept hbw3, hRes.same (fun g _ _ => hbw3.block g (by omega)), hd3, hr3, bw.trans (hbw3.mono (by omega))⟩
    have hbs := b7.kept hbw3
    generalize (W1.alloc (.deferred (some []))).alloc (.loop (rec .ready none)) = W2 at hXA hbs ⊢
    clear hbw3 hd3 hr3 hMk hRes hT1 b4 b5 b6 b7
    refine (lines1_in 19 (w.heap.size + 9) (w.heap.size + 7) (by omega) (fun s' X => ∃ k, XA s [76] w rec .ready k s' X) (fun X => XX s [76] w rec X) ?_ ?_ s (by have := HS.out; omega) ?_ W2 ⟨0, hXA⟩ hbs).mono ?_
    · rintro s' X u ⟨k, h⟩
      exact ⟨k, h.but hlt (Fr.setCell X _ 0 u rfl)⟩
    · rintro s' X ⟨k, h⟩
      exact ⟨k, h.but hlt (Fr.refl _ _).drew⟩
    · rintro s' X hs' hle ⟨k, h⟩ hbs'
      have hr := h.rb
      rw [← hrec] at hr
      refine yield_at hr rfl _ (fun K hK => by gi_wp2; exact hK) ?_
      rw [hrec]
      have hB := h.busy (st' := .busy) hlt
      have hbs2 : Bk (X.putObj (w.heap.size + 9) (.loop (rec .busy none))) (w.heap.size + 7) 9 (L6.bx (L6.piece s').2) := (World.putObj_heap_other (by omega)).trans hbs'
      generalize X.putObj (w.heap.size + 9) (.loop (rec .busy none)) = X1 at hB hbs2 ⊢
      clear h hr hbs' hbs hXA
      obtain ⟨⟨F, S, hm, hF, hc, hl, hf⟩, hn, hsl, ht, hp, hnb, ha, hres, hd, hrb, hw⟩ := hB
      rw [L6.split_piece hs'] at hc hn
      have hns1 := Xc.compile_some HNS.out
      rw [hc] at hns1
      obtain ⟨hna, hnl, hce⟩ := Xc.comp_cons hns1
      rw [hce] at hc
      clear hce hns1
      have happ := congrArg List.length (L6.piece_app s')
      rw [List.length_append] at happ
      have htr := L6.trim_len (L6.piece s').1
      have hsz := HS.out
      have CT := Lib.hid (fun Z => (Tryd.strings_TrimSuffix ⟨(L6.piece s').1.toArray⟩ ⟨#[10]⟩ Z (by simp [ByteArray.size]; omega)).mono (R' := fun e w' => e = .returned (.string ⟨(L6.trim (L6.piece s').1).toArray⟩) ∧ Z = w') (fun e w' h => ⟨h.1, by first | exact h.2 | exact h.2.symm⟩))
      have hlim := hl.line (L6.trim (L6.piece s').1)
      generalize L6.trim (L6.piece s').1 = t at *
      generalize hp1 : (L6.piece s').1 = p1 at *
      generalize hp2 : (L6.piece s').2 = s2 at *
      have hkn : k ≤ 30001 := by
        have h1 := L6.split_len s
        have h2 : s.count 10 ≤ s.length := List.count_le_length
        have h3 : (L6.split s).length ≤ s.count 10 + 1 := by rw [h1]; split <;> omega
        rw [List.length_cons] at hn
        omega
      have hw1 : IntKind.i64.wrap ((k : Int) + 1) = (k : Int) + 1 := by rw [IntKind.wrap_i64]; omega
      have c5 := hnb.cell 0
      have f5 := hnb.free 0
      simp only [List.getElem?_toArray, List.getElem?_cons_zero] at c5
      gi_wp2_with fail
      have hcs := Fr.setCell (F := fun j => j = w.heap.size + 5) X1 (w.heap.size + 5) 0 (.int .i64 ((k : Int) + 1)) rfl
      have hzz := hcs.size
      have hlt9 := (Array.getElem?_eq_some_iff.1 hrb).1
      have hk : ∀ g, g ≠ w.heap.size + 5 → (X1.setCell ⟨w.heap.size + 5, 0, none⟩ (.int .i64 ((k : Int) + 1))).heap[g]? = X1.heap[g]? := fun g hg => Below.heap_setCell _ _ _ _ hg
      have hkb : ∀ {g : Nat} {ty : TypeId} {cs : Array Value}, g ≠ w.heap.size + 5 → Bk X1 g ty cs → Bk (X1.setCell ⟨w.heap.size + 5, 0, none⟩ (.int .i64 ((k : Int) + 1))) g ty cs := fun hg hb => (hk _ hg).trans hb
      have hm' := hm.fr hcs (fun j hj e => by rcases hF j hj with e' | e' <;> omega)
      have ht' := Xc.tab_fr ht hcs (by show ¬ _ = _; omega)
      have hp' := hkb (by omega) hp
      have ha' := hkb (by omega) ha
      have hbs' := hkb (by omega) hbs2
      have hres' := hres.same (X' := X1.setCell ⟨w.heap.size + 5, 0, none⟩ (.int .i64 ((k : Int) + 1))) (fun g _ _ => hk g (by omega))
      have hd' := (hk (w.heap.size + 8) (by omega)).trans hd
      have hrb' := (hk (w.heap.size + 9) (by omega)).trans hrb
      have hnb' : Bk (X1.setCell ⟨w.heap.size + 5, 0, none⟩ (.int .i64 ((k : Int) + 1))) (w.heap.size + 5) 3 #[.int .i64 ((k + 1 : Nat) : Int)] := by
        have := hnb.set 0 (.int .i64 ((k : Int) + 1))
        simpa using this
      have hw' := hw.trans (hcs.below (B := w.heap.size) (fun j e => by omega) (by omega))
      have hzY : w.heap.size + 10 ≤ (X1.setCell ⟨w.heap.size + 5, 0, none⟩ (.int .i64 ((k : Int) + 1))).heap.size := by omega
      generalize X1.setCell ⟨w.heap.size + 5, 0, none⟩ (.int .i64 ((k : Int) + 1)) = Y at *
      clear hm ht hp ha hbs2 hres hd hrb hnb hw hcs hk hkb c5 f5 hzz hlt9
      have HTB := Lib.hid (show Xc.Tb F Y from ⟨ht', fun e => by rcases hF _ e with e | e <;> omega⟩)
      have CL := Lib.hid (fun W (hm : Xc.Mk F W (w.heap.size + 3) [76] S) (hT : Xc.Tb F W) => xline_any hm hT (by decide) t hlim (by omega) hf hnl)
      have HLD := Lib.hid (fun S1 (h : Xc.line [76] (t.length + 1) (Xc.atRest t S) = .ok S1) => (hlim.lineD (tag := [76]) (by decide) (by omega) _ h).up (M := s.length - s2.length) (by omega))
      have HFL := Lib.hid (fun S1 (h : Xc.line [76] (t.length + 1) (Xc.atRest t S) = .ok S1) => Xc.fl_line _ (D := Xc.atRest t S) hf h)
      have HLB := Lib.hid (fun c (h : Xc.line [76] (t.length + 1) (Xc.atRest t S) = .bad c) => Xc.line_bad _ h)
      have HNUM := Lib.hid (show k + 1 + (L6.split s2).length = (L6.split s).length from by rw [List.length_cons] at hn; omega)
      have HSL2 := Lib.hid (show s2.length ≤ s.length from by omega)
      have HM := Lib.hid hm'
      have HTY := Lib.hid ht'
      have HP := Lib.hid hp'
      have HA := Lib.hid ha'
      have HBS := Lib.hid hbs'
      have HRES := Lib.hid hres'
      have HD := Lib.hid hd'
      have HRB := Lib.hid hrb'
      have HNB := Lib.hid hnb'
      have HW := Lib.hid hw'
      have HZY := Lib.hid hzY
      have HF := Lib.hid hF
      have CA := Lib.hid (fun W => xalone_any t Xc.tAsm W (by omega))
      have HNA := Lib.hid hna
      have HC := Lib.hid hc
      have hsn := hm'.seen
      have d3 := hsn.c3
      have d7 := hsn.c7
      have c4 := hp'.cell 0
      have c6 := ha'.cell 0
      simp only [List.getElem?_toArray, List.getElem?_cons_zero] at c4 c6
      -- ways
      have HNL := Lib.hid hnl
      clear hm' ht' hp' ha' hbs' hres' hd' hrb' hnb' hw' hzY hF hsn hna hnl hc hl hf hlim hn happ htr hkn hw1 hle hsl
      cases hwi : S.within
      · rw [hwi] at d3
        by_cases hnu : S.number = []
        · have HAF := Lib.hid (show Xc.alone t Xc.tAsm = false from by
            cases ha : Xc.alone t Xc.tAsm
            · rfl
            · exact absurd ⟨hwi, hnu, ha⟩ HNA.out)
          rw [hnu] at d7
          have CA := Lib.hid (fun W => (CA.out W).mono (R' := fun e w' => e = .returned (.bool false) ∧ Below W.heap.size W w') (fun e w' h => ⟨by rw [h.1, HAF.out], h.2⟩))
          clear hwi hnu HNA
          gi_wp2_with (refine ⟨trivial, ?_⟩; gi_at_call 42; refine (CallsIn.inRound _ (callsIn_wide.2 (CT.out _))).mono ?_; rintro e w' ⟨rfl, rfl⟩)
          refine ⟨trivial, ?_⟩
          gi_wp2_with fail
          refine ⟨trivial, ?_⟩
          gi_at_call 43
          refine (CallsIn.inRound _ (callsIn_wide.2 (CA.out _))).mono ?_
          rintro e Y2 ⟨rfl, hby⟩
          have HBY := Lib.hid hby
          have hm2 := (HM.out.kept hby).seen
          have c4' := (HP.out.kept hby).cell 0
          simp only [List.getElem?_toArray, List.getElem?_cons_zero] at c4'
          clear hby hm2 d3 d7 c4 c6
          gi_wp2_with fail
          refine ⟨trivial, ?_⟩
          cases hR : Xc.line [76] (t.length + 1) (Xc.atRest t S) with
          | stuck => exact absurd hR HNL.out
          | bad c =>
            have HB2 := Lib.hid (CL.out Y2 (HM.out.kept HBY.out) (HTB.out.kept HBY.out))
            rw [hR] at HB2
            have HCC := HC.out
            rw [hR] at HCC
            have HC2 := Lib.hid HCC
            have hne0 : ((c : Int) != 0) = true := by rcases HLB.out c hR with rfl | rfl | rfl <;> decide
            clear HCC hR HC CL HLD HFL HLB
            gi_at_call 45
            refine (CallsIn.inRound _ (callsIn_wide.2 HB2.out)).mono ?_
            rintro e W3 ⟨rfl, F3, st3⟩
            have HK3 := Lib.hid (Xc.keep3 HF.out HZY.out HBY.out st3)
            have HW3 := Lib.hid (show Below w.heap.size w W3 from (HW.out.trans (HBY.out.mono (by have := HZY.out; omega))).trans (st3.below (fun j hj => by rcases HF.out j hj with e | e <;> omega) (by have := HZY.out; have := HBY.out.size; omega)))
            have hres3 := HRES.out.same (X' := W3) (fun g _ _ => HK3.out g (by omega) (by omega))
            have hn3 : Bk W3 (w.heap.size + 5) 3 #[.int .i64 ((k + 1 : Nat) : Int)] := (HK3.out _ (by omega) (by omega)).trans HNB.out
            have z0 := hres3.b0.cell 0
            have y0 := hres3.b0.free 0
            have z1 := hres3.b1.cell 0
            have y1 := hres3.b1.free 0
            have z2 := hres3.b2.cell 0
            have y2 := hres3.b2.free 0
            have z5 := hn3.cell 0
            simp only [List.getElem?_toArray, List.getElem?_cons_zero] at z0 z1 z2 z5
            have HR3 := Lib.hid hres3
            clear st3 hres3 hn3
            gi_wp2_with fail
            gi_region_with_o (fail)
            all_goals gi_wp2_with fail
            all_goals first
              | exact ⟨(XA.stop HR3.out ((HK3.out _ (by omega) (by omega)).trans HD.out) ((HK3.out _ (by omega) (by omega)).trans HRB.out) HW3.out HC2.out rfl).1, .inr ⟨rfl, (XA.stop HR3.out ((HK3.out _ (by omega) (by omega)).trans HD.out) ((HK3.out _ (by omega) (by omega)).trans HRB.out) HW3.out HC2.out rfl).2⟩⟩
          | ok S1 =>
            have HB2 := Lib.hid (CL.out Y2 (HM.out.kept HBY.out) (HTB.out.kept HBY.out))
            rw [hR] at HB2
            have HCC := HC.out
            rw [hR] at HCC
            have HC2 := Lib.hid HCC
            have HL2 := Lib.hid (HLD.out S1 hR)
            have HF2 := Lib.hid (HFL.out S1 hR)
            clear HCC hR HC CL HLD HFL HLB
            gi_at_call 45
            refine (CallsIn.inRound _ (callsIn_wide.2 HB2.out)).mono ?_
            rintro e W3 ⟨rfl, F3, hm3, st3⟩
            gi_wp2_with fail
            have hzz := HZY.out
            obtain ⟨r1, r2, r3⟩ := XA.more (rec := rec) (s0 := s) hlt HF.out (show w.heap.size + 10 ≤ Y2.heap.size from by have := HBY.out.size; omega) (HTB.out.kept HBY.out).1 (HP.out.kept HBY.out) (HNB.out.kept HBY.out) (HA.out.kept HBY.out) (HBS.out.kept HBY.out) (HRES.out.same (fun g _ _ => HBY.out.block g (by omega)))
              ((HBY.out.block _ (by omega)).trans HD.out) ((HBY.out.block _ (by omega)).trans HRB.out) (HW.out.trans (HBY.out.mono (by omega))) hm3 st3 HC2.out HL2.out HF2.out HNUM.out HSL2.out
            exact ⟨r1, .inl ⟨rfl, ⟨k + 1, r2⟩, r3⟩⟩
        · have g7 : (S.number == ([] : List UInt8)) = false := by simpa using hnu
          clear hwi hnu HNA CA
          gi_wp2_with (refine ⟨trivial, ?_⟩; gi_at_call 42; refine (CallsIn.inRound _ (callsIn_wide.2 (CT.out _))).mono ?_; rintro e w' ⟨rfl, rfl⟩)
          refine ⟨trivial, ?_⟩
          gi_wp2_with fail
          refine ⟨trivial, ?_⟩
          gi_wp2_with fail
          refine ⟨trivial, ?_⟩
          obtain ⟨Y2, hY2⟩ : ∃ Y2, Y = Y2 := ⟨_, rfl⟩
          have HBY := Lib.hid (show Below Y.heap.size Y Y2 from hY2 ▸ Below.refl _ _)
          rw [hY2]
          cases hR : Xc.line [76] (t.length + 1) (Xc.atRest t S) with
          | stuck => exact absurd hR HNL.out
          | bad c =>
            have HB2 := Lib.hid (CL.out Y2 (HM.out.kept HBY.out) (HTB.out.kept HBY.out))
            rw [hR] at HB2
            have HCC := HC.out
            rw [hR] at HCC
            have HC2 := Lib.hid HCC
            have hne0 : ((c : Int) != 0) = true := by rcases HLB.out c hR with rfl | rfl | rfl <;> decide
            clear HCC hR HC CL HLD HFL HLB
            gi_at_call 45
            refine (CallsIn.inRound _ (callsIn_wide.2 HB2.out)).mono ?_
            rintro e W3 ⟨rfl, F3, st3⟩
            have HK3 := Lib.hid (Xc.keep3 HF.out HZY.out HBY.out st3)
            have HW3 := Lib.hid (show Below w.heap.size w W3 from (HW.out.trans (HBY.out.mono (by have := HZY.out; omega))).trans (st3.below (fun j hj => by rcases HF.out j hj with e | e <;> omega) (by have := HZY.out; have := HBY.out.size; omega)))
            have hres3 := HRES.out.same (X' := W3) (fun g _ _ => HK3.out g (by omega) (by omega))
            have hn3 : Bk W3 (w.heap.size + 5) 3 #[.int .i64 ((k + 1 : Nat) : Int)] := (HK3.out _ (by omega) (by omega)).trans HNB.out
            have z0 := hres3.b0.cell 0
            have y0 := hres3.b0.free 0
            have z1 := hres3.b1.cell 0
            have y1 := hres3.b1.free 0
            have z2 := hres3.b2.cell 0
            have y2 := hres3.b2.free 0
            have z5 := hn3.cell 0
            simp only [List.getElem?_toArray, List.getElem?_cons_zero] at z0 z1 z2 z5
            have HR3 := Lib.hid hres3
            clear st3 hres3 hn3
            gi_wp2_with fail
            gi_region_with_o (fail)
            all_goals gi_wp2_with fail
            all_goals first
              | exact ⟨(XA.stop HR3.out ((HK3.out _ (by omega) (by omega)).trans HD.out) ((HK3.out _ (by omega) (by omega)).trans HRB.out) HW3.out HC2.out rfl).1, .inr ⟨rfl, (XA.stop HR3.out ((HK3.out _ (by omega) (by omega)).trans HD.out) ((HK3.out _ (by omega) (by omega)).trans HRB.out) HW3.out HC2.out rfl).2⟩⟩
          | ok S1 =>
            have HB2 := Lib.hid (CL.out Y2 (HM.out.kept HBY.out) (HTB.out.kept HBY.out))
            rw [hR] at HB2
            have HCC := HC.out
            rw [hR] at HCC
            have HC2 := Lib.hid HCC
            have HL2 := Lib.hid (HLD.out S1 hR)
            have HF2 := Lib.hid (HFL.out S1 hR)
            clear HCC hR HC CL HLD HFL HLB
            gi_at_call 45
            refine (CallsIn.inRound _ (callsIn_wide.2 HB2.out)).mono ?_
            rintro e W3 ⟨rfl, F3, hm3, st3⟩
            gi_wp2_with fail
            have hzz := HZY.out
            obtain ⟨r1, r2, r3⟩ := XA.more (rec := rec) (s0 := s) hlt HF.out (show w.heap.size + 10 ≤ Y2.heap.size from by have := HBY.out.size; omega) (HTB.out.kept HBY.out).1 (HP.out.kept HBY.out) (HNB.out.kept HBY.out) (HA.out.kept HBY.out) (HBS.out.kept HBY.out) (HRES.out.same (fun g _ _ => HBY.out.block g (by omega)))
              ((HBY.out.block _ (by omega)).trans HD.out) ((HBY.out.block _ (by omega)).trans HRB.out) (HW.out.trans (HBY.out.mono (by omega))) hm3 st3 HC2.out HL2.out HF2.out HNUM.out HSL2.out
            exact ⟨r1, .inl ⟨rfl, ⟨k + 1, r2⟩, r3⟩⟩
      · rw [hwi] at d3
        clear hwi HNA CA
        gi_wp2_with (refine ⟨trivial, ?_⟩; gi_at_call 42; refine (CallsIn.inRound _ (callsIn_wide.2 (CT.out _))).mono ?_; rintro e w' ⟨rfl, rfl⟩)
        refine ⟨trivial, ?_⟩
        gi_wp2_with fail
        refine ⟨trivial, ?_⟩
        gi_wp2_with fail
        refine ⟨trivial, ?_⟩
        obtain ⟨Y2, hY2⟩ : ∃ Y2, Y = Y2 := ⟨_, rfl⟩
        have HBY := Lib.hid (show Below Y.heap.size Y Y2 from hY2 ▸ Below.refl _ _)
        rw [hY2]
        cases hR : Xc.line [76] (t.length + 1) (Xc.atRest t S) with
        | stuck => exact absurd hR HNL.out
        | bad c =>
          have HB2 := Lib.hid (CL.out Y2 (HM.out.kept HBY.out) (HTB.out.kept HBY.out))
          rw [hR] at HB2
          have HCC := HC.out
          rw [hR] at HCC
          have HC2 := Lib.hid HCC
          have hne0 : ((c : Int) != 0) = true := by rcases HLB.out c hR with rfl | rfl | rfl <;> decide
          clear HCC hR HC CL HLD HFL HLB
          gi_at_call 45
          refine (CallsIn.inRound _ (callsIn_wide.2 HB2.out)).mono ?_
          rintro e W3 ⟨rfl, F3, st3⟩
          have HK3 := Lib.hid (Xc.keep3 HF.out HZY.out HBY.out st3)
          have HW3 := Lib.hid (show Below w.heap.size w W3 from (HW.out.trans (HBY.out.mono (by have := HZY.out; omega))).trans (st3.below (fun j hj => by rcases HF.out j hj with e | e <;> omega) (by have := HZY.out; have := HBY.out.size; omega)))
          have hres3 := HRES.out.same (X' := W3) (fun g _ _ => HK3.out g (by omega) (by omega))
          have hn3 : Bk W3 (w.heap.size + 5) 3 #[.int .i64 ((k + 1 : Nat) : Int)] := (HK3.out _ (by omega) (by omega)).trans HNB.out
          have z0 := hres3.b0.cell 0
          have y0 := hres3.b0.free 0
          have z1 := hres3.b1.cell 0
          have y1 := hres3.b1.free 0
          have z2 := hres3.b2.cell 0
          have y2 := hres3.b2.free 0
          have z5 := hn3.cell 0
          simp only [List.getElem?_toArray, List.getElem?_cons_zero] at z0 z1 z2 z5
          have HR3 := Lib.hid hres3
          clear st3 hres3 hn3
          gi_wp2_with fail
          gi_region_with_o (fail)
          all_goals gi_wp2_with fail
          all_goals first
            | exact ⟨(XA.stop HR3.out ((HK3.out _ (by omega) (by omega)).trans HD.out) ((HK3.out _ (by omega) (by omega)).trans HRB.out) HW3.out HC2.out rfl).1, .inr ⟨rfl, (XA.stop HR3.out ((HK3.out _ (by omega) (by omega)).trans HD.out) ((HK3.out _ (by omega) (by omega)).trans HRB.out) HW3.out HC2.out rfl).2⟩⟩
        | ok S1 =>
          have HB2 := Lib.hid (CL.out Y2 (HM.out.kept HBY.out) (HTB.out.kept HBY.out))
          rw [hR] at HB2
          have HCC := HC.out
          rw [hR] at HCC
          have HC2 := Lib.hid HCC
          have HL2 := Lib.hid (HLD.out S1 hR)
          have HF2 := Lib.hid (HFL.out S1 hR)
          clear HCC hR HC CL HLD HFL HLB
          gi_at_call 45
          refine (CallsIn.inRound _ (callsIn_wide.2 HB2.out)).mono ?_
          rintro e W3 ⟨rfl, F3, hm3, st3⟩
          gi_wp2_with fail
          have hzz := HZY.out
          obtain ⟨r1, r2, r3⟩ := XA.more (rec := rec) (s0 := s) hlt HF.out (show w.heap.size + 10 ≤ Y2.heap.size from by have := HBY.out.size; omega) (HTB.out.kept HBY.out).1 (HP.out.kept HBY.out) (HNB.out.kept HBY.out) (HA.out.kept HBY.out) (HBS.out.kept HBY.out) (HRES.out.same (fun g _ _ => HBY.out.block g (by omega)))
            ((HBY.out.block _ (by omega)).trans HD.out) ((HBY.out.block _ (by omega)).trans HRB.out) (HW.out.trans (HBY.out.mono (by omega))) hm3 st3 HC2.out HL2.out HF2.out HNUM.out HSL2.out
          exact ⟨r1, .inl ⟨rfl, ⟨k + 1, r2⟩, r3⟩⟩
    · rintro e X ⟨hv, (⟨k, h⟩ | h)⟩
      · exact ⟨hv, .inl ⟨h.rb, k, rec, h⟩⟩
      · exact ⟨hv, .inr ⟨_, h.rb, rec, h, rfl⟩⟩
end Go.Proofs.YtfafdkbnmfpbmaaDoor
