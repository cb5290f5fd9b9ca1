/- Texts joined: L6Parse, L6Right, L6RightW, L6Bd. -/
import Derived.Test.YtfafdkbnmfpbmaaDoorJ4
import Derived.Test.YtfafdkbnmfpbmaaDoorJ6
import Derived.Test.YtfafdkbnmfpbmaaDoorJ5
/- The walk of lines.Parse. -/
namespace Go.Proofs.YtfafdkbnmfpbmaaDoor
open Go.RowKit Go.Shelf Kit
set_option linter.unusedVariables false
set_option linter.unusedSimpArgs false
attribute [local go_sem] Oper.semAt_some

def ParsePost (w : World) (s : List UInt8) (e : Ending) (w' : World) : Prop :=
  ∃ v, e = .returned (.tuple #[v, .int .i64 ((L6.parse s).2.1 : Nat), .int .i64 ((L6.parse s).2.2 : Nat)]) ∧ OwnL w.heap.size w' v (L6.parse s).1 ∧ Below w.heap.size w w'
theorem Below.put {B : Nat} {a w : World} (h : Below B a w) (g : Nat) (o : Obj) (hg : B ≤ g) : Below B a (w.putObj g o) :=
  ⟨h.os, h.tape, h.output, by rw [World.putObj_size]; exact h.size, fun k hk => (World.putObj_heap_other (by omega)).trans (h.block k hk)⟩
/-- The result cells. -/
structure ResAt (h : Nat) (v : Value) (i c : Nat) (X : World) : Prop where
  b0 : Bk X h 25 #[v]
  b1 : Bk X (h + 1) 3 #[.int .i64 (i : Int)]
  b2 : Bk X (h + 2) 27 #[.int .i64 (c : Int)]
theorem ResAt.same {h i c : Nat} {v : Value} {X X' : World} (r : ResAt h v i c X) (hk : ∀ g, h ≤ g → g < h + 3 → X'.heap[g]? = X.heap[g]?) : ResAt h v i c X' :=
  ⟨(hk _ (by omega) (by omega)).trans r.b0, (hk _ (by omega) (by omega)).trans r.b1, (hk _ (by omega) (by omega)).trans r.b2⟩
def put3 (X : World) (h : Nat) (v a b : Value) : World := ((X.setCell ⟨h, 0, none⟩ v).setCell ⟨h + 1, 0, none⟩ a).setCell ⟨h + 1 + 1, 0, none⟩ b
theorem put3_other (X : World) (h : Nat) (v a b : Value) (g : Nat) (hg : g < h ∨ h + 3 ≤ g) : (put3 X h v a b).heap[g]? = X.heap[g]? :=
  ((Below.heap_setCell _ _ _ _ (by show g ≠ h + 1 + 1; omega)).trans (Below.heap_setCell _ _ _ _ (by show g ≠ h + 1; omega))).trans (Below.heap_setCell _ _ _ _ (by show g ≠ h; omega))
theorem put3_size (X : World) (h : Nat) (v a b : Value) : (put3 X h v a b).heap.size = X.heap.size := by simp [put3, World.setCell]
theorem put3_below {X w : World} {h : Nat} {v a b : Value} (hb : Below h w X) : Below h w (put3 X h v a b) := ((hb.setCell (Nat.le_refl _) _).setCell (by simp) _).setCell (by simp; omega) _
theorem ResAt.put3 {h i c i' c' : Nat} {v v' : Value} {X : World} (r : ResAt h v i c X) : ResAt h v' i' c' (put3 X h v' (.int .i64 (i' : Int)) (.int .i64 (c' : Int))) := by
  refine ⟨?_, ?_, ?_⟩
  · have h1 := r.b0.set 0 v'
    have h2 := (But.setCell _ (h + 1 + 1) 0 (.int .i64 (c' : Int))).bk ((But.setCell _ (h + 1) 0 (.int .i64 (i' : Int))).bk h1 (by omega)) (by omega)
    unfold Bk at h2 ⊢
    unfold Go.Proofs.YtfafdkbnmfpbmaaDoor.put3
    simpa using h2
  · have h0 := (But.setCell X h 0 v').bk r.b1 (by omega)
    have h1 := h0.set 0 (.int .i64 (i' : Int))
    have h2 := (But.setCell _ (h + 1 + 1) 0 (.int .i64 (c' : Int))).bk h1 (by omega)
    unfold Bk at h2 ⊢
    unfold Go.Proofs.YtfafdkbnmfpbmaaDoor.put3
    simpa using h2
  · have h0 := (But.setCell _ (h + 1) 0 (.int .i64 (i' : Int))).bk ((But.setCell X h 0 v').bk r.b2 (by omega)) (by omega)
    have h2 : Bk ((((X.setCell ⟨h, 0, none⟩ v').setCell ⟨h + 1, 0, none⟩ (.int .i64 (i' : Int))).setCell ⟨h + 1 + 1, 0, none⟩ (.int .i64 (c' : Int)))) (h + 1 + 1) 27 _ := h0.set 0 (.int .i64 (c' : Int))
    unfold Bk at h2 ⊢
    unfold Go.Proofs.YtfafdkbnmfpbmaaDoor.put3
    simpa using h2
theorem parse_results {h i c : Nat} {v : Value} {X : World} (r : ResAt h v i c X) {t : Array Value} (h2 : t[2]? = some (.pointer (some ⟨h, 0, none⟩))) (h3 : t[3]? = some (.pointer (some ⟨h + 1, 0, none⟩))) (h4 : t[4]? = some (.pointer (some ⟨h + 1 + 1, 0, none⟩))) :
    (results Tryd.f29 t).run Tryd.prog X = .ok (.tuple #[v, .int .i64 (i : Int), .int .i64 (c : Int)]) X := by
  have k0 : X.cell? ⟨h, 0, none⟩ = some v := r.b0.cell 0
  have k1 : X.cell? ⟨h + 1, 0, none⟩ = some (.int .i64 (i : Int)) := r.b1.cell 0
  have k2 : X.cell? ⟨h + 1 + 1, 0, none⟩ = some (.int .i64 (c : Int)) := r.b2.cell 0
  simp [results, Tryd.f29, go_sem, h2, h3, h4, k0, k1, k2]
/-- Between two rounds of Parse's loop. -/
structure PA (s0 : List UInt8) (w : World) (rec : LoopState → Option Code → Loop) (st : LoopState) (k : Nat) (s : List UInt8) (X : World) : Prop where
  out : ∃ ls v, Bk X (w.heap.size + 3) 25 #[v] ∧ OwnL (w.heap.size + 12) X v ls ∧ ls.length = k ∧ L6.parseL 0 [] (L6.split s0) = L6.parseL k ls (L6.split s)
  num : k + (L6.split s).length = (L6.split s0).length
  slen : s.length ≤ s0.length
  res : ResAt w.heap.size (.slice none 0 0) 0 0 X
  db : X.heap[w.heap.size + 5]? = some (.deferred (some []))
  rb : X.heap[w.heap.size + 6]? = some (.loop (rec st none))
  below : Below w.heap.size w X
structure PX (s0 : List UInt8) (w : World) (rec : LoopState → Option Code → Loop) (X : World) : Prop where
  res : ∃ i c, ResAt w.heap.size (.slice none 0 0) i c X ∧ L6.parseL 0 [] (L6.split s0) = ([], i, c)
  db : X.heap[w.heap.size + 5]? = some (.deferred (some []))
  rb : X.heap[w.heap.size + 6]? = some (.loop (rec .done (some .ret)))
  below : Below w.heap.size w X
theorem PA.mid {s0 : List UInt8} {w : World} {rec : LoopState → Option Code → Loop} {st : LoopState} {k : Nat} {s : List UInt8} {X X' : World} (h : PA s0 w rec st k s X) (hm : Mid (w.heap.size + 7) (w.heap.size + 7 + 5) X X') : PA s0 w rec st k s X' := by
  obtain ⟨⟨ls, v, h1, h2, h3, h4⟩, hn, hs, hr, hd, hb, hw⟩ := h
  refine ⟨⟨ls, v, (hm.block _ (by omega)).trans h1, h2.up (fun g hg _ => hm.block g (by omega)), h3, h4⟩, hn, hs, hr.same (fun g _ _ => hm.block g (by omega)), (hm.block _ (by omega)).trans hd, (hm.block _ (by omega)).trans hb, ?_⟩
  exact hw.trans ⟨hm.os, hm.tape, hm.output, Nat.le_of_eq hm.size.symm, fun g hg => hm.block g (by omega)⟩
theorem PX.mid {s0 : List UInt8} {w : World} {rec : LoopState → Option Code → Loop} {X X' : World} (h : PX s0 w rec X) (hm : Mid (w.heap.size + 7) (w.heap.size + 7 + 5) X X') : PX s0 w rec X' := by
  obtain ⟨⟨i, c, hr, hp⟩, hd, hb, hw⟩ := h
  refine ⟨⟨i, c, hr.same (fun g _ _ => hm.block g (by omega)), hp⟩, (hm.block _ (by omega)).trans hd, (hm.block _ (by omega)).trans hb, ?_⟩
  exact hw.trans ⟨hm.os, hm.tape, hm.output, Nat.le_of_eq hm.size.symm, fun g hg => hm.block g (by omega)⟩
theorem PA.busy {s0 : List UInt8} {w : World} {rec : LoopState → Option Code → Loop} {st st' : LoopState} {k : Nat} {s : List UInt8} {X : World} (h : PA s0 w rec st k s X) : PA s0 w rec st' k s (X.putObj (w.heap.size + 6) (.loop (rec st' none))) := by
  obtain ⟨⟨ls, v, h1, h2, h3, h4⟩, hn, hs, hr, hd, hb, hw⟩ := h
  exact ⟨⟨ls, v, h1.put _ (by omega), h2.up (fun g hg _ => World.putObj_heap_other (by omega)), h3, h4⟩, hn, hs, hr.same (fun g _ _ => World.putObj_heap_other (by omega)), (World.putObj_heap_other (by omega)).trans hd,
    World.putObj_heap_same (Array.getElem?_eq_some_iff.1 hb).1, Below.put hw _ _ (by omega)⟩
/-- A later world, the blocks that were there kept. -/
theorem PA.kept {s0 : List UInt8} {w : World} {rec : LoopState → Option Code → Loop} {st : LoopState} {k : Nat} {s : List UInt8} {X X' : World} (h : PA s0 w rec st k s X) (hb : Below X.heap.size X X') : PA s0 w rec st k s X' := by
  have hz := (Array.getElem?_eq_some_iff.1 h.rb).1
  obtain ⟨⟨ls, v, h1, h2, h3, h4⟩, hn, hs, hr, hd, hr', hw⟩ := h
  exact ⟨⟨ls, v, h1.kept hb, h2.kept hb, h3, h4⟩, hn, hs, hr.same (fun g _ _ => hb.block g (by omega)), (hb.block _ (by omega)).trans hd, (hb.block _ hz).trans hr', hw.trans (hb.mono hw.size)⟩
/-- What a round of Parse hands back. -/
def YPost (s0 : List UInt8) (w : World) (rec : LoopState → Option Code → Loop) (k : Nat) (s : List UInt8) (X : World) (e : Ending) (X' : World) : Prop :=
  ∃ b, e = .returned (.bool b) ∧ (∀ i, w.heap.size + 7 ≤ i → i < w.heap.size + 7 + 5 → X'.heap[i]? = X.heap[i]?) ∧ X.heap.size ≤ X'.heap.size ∧ (if b = true then PA s0 w rec .ready k s X' else PX s0 w rec X')
/-- A round has left: the results are stored. -/
theorem parse_stop {s0 : List UInt8} {w : World} {rec : LoopState → Option Code → Loop} {k : Nat} {s : List UInt8} {X Z : World} {J : World → Prop} {c : Nat} (h : PA s0 w rec .busy k s Z)
    (hp : L6.parseL 0 [] (L6.split s0) = ([], k + 1, c)) (hk : ∀ g, w.heap.size + 7 ≤ g → g < w.heap.size + 7 + 5 → Z.heap[g]? = X.heap[g]?) (hz : X.heap.size ≤ Z.heap.size) (i' c' : Value) (hi : i' = .int .i64 ((k : Int) + 1)) (hc : c' = .int .i64 (c : Int)) :
    (put3 Z w.heap.size (.slice none 0 0) i' c').heap[w.heap.size + 6]? = some (.loop (rec .busy none)) ∧
      ∃ b, Ending.returned (.bool false) = .returned (.bool b) ∧ (∀ g, w.heap.size + 7 ≤ g → g < w.heap.size + 7 + 5 → ((put3 Z w.heap.size (.slice none 0 0) i' c').putObj (w.heap.size + 6) (.loop (rec .done (some .ret)))).heap[g]? = X.heap[g]?) ∧
        X.heap.size ≤ ((put3 Z w.heap.size (.slice none 0 0) i' c').putObj (w.heap.size + 6) (.loop (rec .done (some .ret)))).heap.size ∧ (if b = true then J ((put3 Z w.heap.size (.slice none 0 0) i' c').putObj (w.heap.size + 6) (.loop (rec .done (some .ret)))) else PX s0 w rec ((put3 Z w.heap.size (.slice none 0 0) i' c').putObj (w.heap.size + 6) (.loop (rec .done (some .ret))))) := by
  subst hi hc
  have hb : (put3 Z w.heap.size (.slice none 0 0) (.int .i64 ((k : Int) + 1)) (.int .i64 (c : Int))).heap[w.heap.size + 6]? = some (.loop (rec .busy none)) := (put3_other _ _ _ _ _ _ (by omega)).trans h.rb
  have hr : ResAt w.heap.size (.slice none 0 0) (k + 1) c (put3 Z w.heap.size (.slice none 0 0) (.int .i64 ((k : Int) + 1)) (.int .i64 (c : Int))) := h.res.put3
  refine ⟨hb, false, rfl, fun g h1 h2 => ?_, ?_, ?_⟩
  · exact ((World.putObj_heap_other (by omega)).trans (put3_other _ _ _ _ _ _ (by omega))).trans (hk g h1 h2)
  · rw [World.putObj_size, put3_size]; exact hz
  · rw [if_neg (by decide)]
    exact ⟨⟨k + 1, c, hr.same (fun g _ _ => World.putObj_heap_other (by omega)), hp⟩, ((World.putObj_heap_other (by omega)).trans (put3_other _ _ _ _ _ _ (by omega))).trans h.db, World.putObj_heap_same (Array.getElem?_eq_some_iff.1 hb).1,
      Below.put (put3_below h.below) _ _ (by omega)⟩
theorem ownBlock_ge {w : World} {base : Nat} {t : TypeId} {size : Nat} {v : Value} {n : Nat} {xs : List Value} (h : w.ownsRow base t size v n xs) {g : Nat} (hv : v.ownBlock = some g) : base ≤ g := by
  rcases h.2 with ⟨rfl, _⟩ | ⟨g', cap, cur, rfl, hb, _⟩
  · simp [Value.ownBlock] at hv
  · simp [Value.ownBlock] at hv; omega
theorem one3 {a b : Nat} {w : World} {vl va : Value} {x y : List (List UInt8)} {u : ByteArray} (h1 : OwnS a w vl x) (h2 : OwnS b w va y) : ∀ z ∈ [vl, .string u, va], z.oneCell' = true := by
  obtain ⟨A1, c1, rfl⟩ := h1.form
  obtain ⟨A2, c2, rfl⟩ := h2.form
  intro z hz
  simp only [List.mem_cons, List.not_mem_nil, or_false] at hz
  rcases hz with rfl | rfl | rfl <;> rfl
/-- A round goes on: one more line. -/
theorem parse_round {s0 : List UInt8} {w : World} {rec : LoopState → Option Code → Loop} {k : Nat} {s sl : List UInt8} {X Z w4 w6 : World} {v vl va v6 : Value} {ls : List L6.Line} {x : L6.Line} {cs : List Value} (h : PA s0 w rec .busy k s Z)
    (ho : Bk Z (w.heap.size + 3) 25 #[v]) (hcs : LinesV (w.heap.size + 12) Z ls cs) (hown : Z.ownsRow (w.heap.size + 12) 42 3 v ls.length cs) (hk : ls.length = k)
    (hz : w.heap.size + 12 ≤ Z.heap.size) (hb4 : Below Z.heap.size Z w4) (hl4 : OwnS Z.heap.size w4 vl x.labels) (ha4 : OwnS Z.heap.size w4 va x.args)
    (ho6 : w6.ownsRow (w.heap.size + 12) 42 3 v6 (ls.length + 1) (cs ++ [vl, .string ⟨x.word.toArray⟩, va])) (hg6 : (w4.alloc (.cells #[vl, .string ⟨x.word.toArray⟩, va] 42)).grownBy w6 v.ownBlock)
    (hp : L6.parseL 0 [] (L6.split s0) = L6.parseL (k + 1) (ls ++ [x]) (L6.split sl)) (hnum : (L6.split s).length = (L6.split sl).length + 1) (hslen : sl.length ≤ s.length)
    (hkX : ∀ g, w.heap.size + 7 ≤ g → g < w.heap.size + 7 + 5 → Z.heap[g]? = X.heap[g]?) (hzX : X.heap.size ≤ Z.heap.size) :
    (w6.setCell ⟨w.heap.size + 3, 0, none⟩ v6).heap[w.heap.size + 6]? = some (.loop (rec .busy none)) ∧
      YPost s0 w rec (k + 1) sl X (.returned (.bool true)) ((w6.setCell ⟨w.heap.size + 3, 0, none⟩ v6).putObj (w.heap.size + 6) (.loop (rec .ready none))) := by
  have hb5 : Below Z.heap.size Z (w4.alloc (.cells #[vl, .string ⟨x.word.toArray⟩, va] 42)) := hb4.alloc hb4.size _
  have hown5 : (w4.alloc (.cells #[vl, .string ⟨x.word.toArray⟩, va] 42)).ownsRow (w.heap.size + 12) 42 3 v ls.length cs := own_kept hown hb5
  have hb45 : Below w4.heap.size w4 (w4.alloc (.cells #[vl, .string ⟨x.word.toArray⟩, va] 42)) := (Below.refl _ _).alloc (Nat.le_refl _) _
  have hL6 : OwnL (w.heap.size + 12) w6 v6 (ls ++ [x]) := OwnL.grown hcs hown5 hb5 ((hl4.rebase hz).kept hb45) ((ha4.rebase hz).kept hb45) ho6 hg6
  have hsame : ∀ g, g < w.heap.size + 12 → w6.heap[g]? = Z.heap[g]? := fun g hg =>
    (hg6.block g (by have := hb5.size; omega) (fun e => by have := ownBlock_ge hown5 e.symm; omega)).trans (hb5.block g (by omega))
  have hz6 : Z.heap.size ≤ w6.heap.size := Nat.le_trans hb5.size hg6.size
  have hf : ∀ g, g < w.heap.size + 12 → g ≠ w.heap.size + 3 → g ≠ w.heap.size + 6 → ((w6.setCell ⟨w.heap.size + 3, 0, none⟩ v6).putObj (w.heap.size + 6) (.loop (rec .ready none))).heap[g]? = Z.heap[g]? := fun g h1 h2 h3 =>
    ((World.putObj_heap_other h3).trans (Below.heap_setCell _ _ _ _ h2)).trans (hsame g h1)
  have hbusy : (w6.setCell ⟨w.heap.size + 3, 0, none⟩ v6).heap[w.heap.size + 6]? = some (.loop (rec .busy none)) := ((Below.heap_setCell _ _ _ _ (by show w.heap.size + 6 ≠ w.heap.size + 3; omega)).trans (hsame _ (by omega))).trans h.rb
  refine ⟨hbusy, true, rfl, fun g h1 h2 => (hf g (by omega) (by omega) (by omega)).trans (hkX g h1 h2), ?_, ?_⟩
  · rw [World.putObj_size]
    have e : (w6.setCell ⟨w.heap.size + 3, 0, none⟩ v6).heap.size = w6.heap.size := by simp [World.setCell]
    omega
  · rw [if_pos rfl]
    have ho6' : Bk w6 (w.heap.size + 3) 25 #[v] := (hsame _ (by omega)).trans ho
    have ho7 : Bk (w6.setCell ⟨w.heap.size + 3, 0, none⟩ v6) (w.heap.size + 3) 25 #[v6] := by
      have := ho6'.set 0 v6
      simpa using this
    have hn := h.num
    have hs := h.slen
    refine ⟨⟨ls ++ [x], v6, ho7.put _ (by omega), ?_, by simp [hk], hp⟩, by omega, by omega, h.res.same (fun g h1 h2 => hf g (by omega) (by omega) (by omega)), (hf _ (by omega) (by omega) (by omega)).trans h.db, World.putObj_heap_same (Array.getElem?_eq_some_iff.1 hbusy).1, ?_⟩
    · exact hL6.up (fun g hg _ => (World.putObj_heap_other (by omega)).trans (Below.heap_setCell _ _ _ _ (by show g ≠ w.heap.size + 3; omega)))
    · have e1 : Below w.heap.size w (w4.alloc (.cells #[vl, .string ⟨x.word.toArray⟩, va] 42)) := h.below.trans (hb5.mono (by omega))
      have e2 : Below w.heap.size w w6 := e1.grown hg6 (by have := hb5.size; omega) (fun g e => by have := ownBlock_ge hown5 e; omega)
      exact Below.put (e2.setCell (by simp) _) _ _ (by omega)
set_option maxRecDepth 100000 in
set_option maxHeartbeats 2000000 in
theorem lparse_any (s : List UInt8) (w : World) (hs : s.length ≤ 1000000000) : Calls Tryd.prog 29 #[.string ⟨s.toArray⟩] w (ParsePost w s) := by
  refine (callsIn_wide (n := 20)).1 ?_
  refine callsIn_of_wp_marks Tryd.func29 rfl trivial ?_ rfl
  simp only [Tryd.ntmps29, List.size_toArray, List.length_cons, List.length_nil, Nat.reduceAdd, Nat.reduceSub, Array.replicate_succ, Array.replicate_zero, List.push_toArray, List.append_toArray, List.nil_append, List.cons_append]
  have HS := Lib.hid hs
  clear hs
  have mixed : Tryd.prog.follows .mixedOrders = true := by kernel_rfl
  have CC := Lib.hid (fun Z => Tryd.strings_Count_one ⟨s.toArray⟩ 10 Z)
  have CS := Lib.hid (fun Z => Tryd.strings_HasSuffix ⟨s.toArray⟩ ⟨#[10]⟩ Z (by have := HS.out; simp [ByteArray.size]; omega))
  gi_upto_region 2 with (refine ⟨trivial, ?_⟩; gi_at_call 51; refine (callsIn_wide.2 (CC.out _)).mono ?_; rintro e w' ⟨rfl, rfl⟩)
  have HE := Lib.hid (show (s.isEmpty = true ↔ s = []) from by cases s <;> simp)
  gi_cut [19] from 11 (fun b wx => b = .bool (!s.isEmpty && !(s.getLastD 0 == 10)) ∧ wx = ((w.alloc (.cells #[.slice none 0 0] 25)).alloc (.cells #[.int .i64 0] 3)).alloc (.cells #[.int .i64 0] 27))
  case first =>
    have HSU := Lib.hid (show Lib.hasSuffix s [10] = (!s.isEmpty && s.getLastD 0 == 10) from L6.suffix_one s 10)
    cases s with
    | nil =>
      gi_wp2_with fail
      refine ⟨trivial, ?_⟩
      gi_wp2_with fail
      gi_meet
      case rel => exact ⟨rfl, rfl⟩
    | cons c t =>
      gi_wp2_with (refine ⟨trivial, ?_⟩; gi_at_call 52; refine (callsIn_wide.2 (CS.out _)).mono ?_; rintro e w' ⟨rfl, rfl⟩)
      gi_meet
      case rel => exact ⟨by have := HSU.out; simp only [List.isEmpty_cons, Bool.not_false, Bool.true_and] at this ⊢; rw [this], rfl⟩
  case rest =>
    clear HE CS
    obtain ⟨rfl, rfl⟩ := hcut
    gi_upto_if 19 with fail
    gi_cut [5] from 11 (fun n wx => n = .int .i64 ((L6.split s).length : Int) ∧ wx = ((w.alloc (.cells #[.slice none 0 0] 25)).alloc (.cells #[.int .i64 0] 3)).alloc (.cells #[.int .i64 0] 27))
    case first =>
      have hsl := L6.split_len s
      have hcl : s.count 10 ≤ 1000000000 := Nat.le_trans List.count_le_length HS.out
      cases hb : (!s.isEmpty && !(s.getLastD 0 == 10))
      · rw [hb] at hsl
        simp only [Bool.false_eq_true, if_false, Nat.add_zero] at hsl
        have HSL := Lib.hid hsl
        clear hsl
        gi_wp2
        gi_meet
        case rel => exact ⟨by rw [HSL.out]; rfl, rfl⟩
      · rw [hb] at hsl
        simp only [if_true] at hsl
        have HSL := Lib.hid hsl
        clear hsl
        have hw : IntKind.i64.wrap ((Lib.countByte s 10 : Int) + 1) = (Lib.countByte s 10 : Int) + 1 := by unfold Lib.countByte; generalize s.count 10 = m at hcl ⊢; go_bits; exact trivial
        gi_wp2
        gi_meet
        case rel => exact ⟨by rw [HSL.out]; rfl, rfl⟩
    case rest =>
      obtain ⟨rfl, rfl⟩ := hcut
      clear CC
      have b0 := (Bk.fresh w 25 #[.slice none 0 0]).kept (((Below.refl _ _).alloc (Nat.le_refl _) (.cells #[.int .i64 0] 3)).alloc (by simp) (.cells #[.int .i64 0] 27))
      have b1 := (Bk.fresh (w.alloc (.cells #[.slice none 0 0] 25)) 3 #[.int .i64 0]).kept ((Below.refl _ _).alloc (Nat.le_refl _) (.cells #[.int .i64 0] 27))
      have b2 := Bk.fresh ((w.alloc (.cells #[.slice none 0 0] 25)).alloc (.cells #[.int .i64 0] 3)) 27 #[.int .i64 0]
      have bw : Below w.heap.size w (((w.alloc (.cells #[.slice none 0 0] 25)).alloc (.cells #[.int .i64 0] 3)).alloc (.cells #[.int .i64 0] 27)) := (((Below.refl _ _).alloc (Nat.le_refl _) _).alloc (by simp) _).alloc (by simp; omega) _
      have bz : (((w.alloc (.cells #[.slice none 0 0] 25)).alloc (.cells #[.int .i64 0] 3)).alloc (.cells #[.int .i64 0] 27)).heap.size = w.heap.size + 3 := by simp
      simp only [World.size_alloc] at b1 b2
      generalize ((w.alloc (.cells #[.slice none 0 0] 25)).alloc (.cells #[.int .i64 0] 3)).alloc (.cells #[.int .i64 0] 27) = w3 at b0 b1 b2 bw bz ⊢
      by_cases hlim : 32768 < (L6.split s).length
      · have hlim' : (32768 : Int) < (L6.split s).length := by omega
        have HP := Lib.hid (show L6.parse s = ([], 0, 6) from by unfold L6.parse; rw [if_pos hlim])
        clear hlim
        have k0 := b0.cell 0
        have f0 := b0.free 0
        have k1 := b1.cell 0
        have f1 := b1.free 0
        have k2 := b2.cell 0
        have f2 := b2.free 0
        gi_wp2
        have hr : ResAt w.heap.size (.slice none 0 0) 0 6 (put3 w3 w.heap.size (.slice none 0 0) (.int .i64 ((0 : Nat) : Int)) (.int .i64 ((6 : Nat) : Int))) := (ResAt.mk (i := 0) (c := 0) b0 b1 b2).put3
        have hbf : Below w.heap.size w (put3 w3 w.heap.size (.slice none 0 0) (.int .i64 ((0 : Nat) : Int)) (.int .i64 ((6 : Nat) : Int))) := put3_below bw
        unfold put3 at hr hbf
        exact ⟨_, parse_results hr rfl rfl rfl, .slice none 0 0, by rw [HP.out], by rw [HP.out]; exact OwnL.nil _ _, hbf⟩
      · have hlim' : ((L6.split s).length : Int) ≤ 32768 := by omega
        have HP := Lib.hid (show L6.parse s = L6.parseL 0 [] (L6.split s) from by unfold L6.parse; rw [if_neg hlim])
        have HLIM := Lib.hid (show (L6.split s).length ≤ 32768 from by omega)
        clear hlim
        gi_wp2_with (refine ⟨trivial, ?_⟩; gi_at_call 53; refine (cut_in _ s _).mono ?_; rintro e w' ⟨rfl, rfl⟩)
        have bz0 : ((w3.alloc (.cells #[.slice none 0 0] 25)).alloc (.cells (L6.bx s) 9)).heap.size = w.heap.size + 5 := by simp [bz]
        have bw3 : Below w3.heap.size w3 ((w3.alloc (.cells #[.slice none 0 0] 25)).alloc (.cells (L6.bx s) 9)) := ((Below.refl _ _).alloc (Nat.le_refl _) _).alloc (by simp) _
        have r0 : ResAt w.heap.size (.slice none 0 0) 0 0 ((w3.alloc (.cells #[.slice none 0 0] 25)).alloc (.cells (L6.bx s) 9)) := ResAt.mk (b0.kept bw3) (b1.kept bw3) (b2.kept bw3)
        have bo : Bk ((w3.alloc (.cells #[.slice none 0 0] 25)).alloc (.cells (L6.bx s) 9)) (w.heap.size + 3) 25 #[.slice none 0 0] := by
          have := (Bk.fresh w3 25 #[.slice none 0 0]).kept ((Below.refl _ _).alloc (Nat.le_refl _) (.cells (L6.bx s) 9))
          rwa [bz] at this
        have bs : Bk ((w3.alloc (.cells #[.slice none 0 0] 25)).alloc (.cells (L6.bx s) 9)) (w.heap.size + 4) 9 (L6.bx s) := by
          have := Bk.fresh (w3.alloc (.cells #[.slice none 0 0] 25)) 9 (L6.bx s)
          rwa [World.size_alloc, bz] at this
        have bw0 := bw.trans (bw3.mono (show w.heap.size ≤ w3.heap.size by omega))
        generalize (w3.alloc (.cells #[.slice none 0 0] 25)).alloc (.cells (L6.bx s) 9) = W0 at bz0 r0 bo bs bw0 ⊢
        clear b0 b1 b2 bw bz bw3
        refine range_at (gf := 91) (lb := #[.pointer (some ⟨w.heap.size + 3 + 1, 0, none⟩)]) rfl (enters_of Tryd.func91 (by kernel_rfl) rfl)
          (fun fn X => ∃ k rec, PA s w rec .ready k [] X) (fun fn c X => ∃ rec, PX s w rec X ∧ c = .ret) ?call ?done ?stop
        case done =>
          rintro fn X ⟨k, rec, h⟩
          rw [bz0]
          generalize hex : X.putObj (w.heap.size + 5 + 1) _ = X'
          have hx : ∀ g, g ≠ w.heap.size + 6 → X'.heap[g]? = X.heap[g]? := fun g hg => by rw [← hex]; exact World.putObj_heap_other hg
          have hbw : Below w.heap.size w X' := by rw [← hex]; exact Below.put h.below _ _ (by omega)
          obtain ⟨ls, v, h1, h2, rfl, h4⟩ := h.out
          have hr := h.res.same (X' := X') (fun g _ _ => hx g (by omega))
          have hd := (hx (w.heap.size + 5) (by omega)).trans h.db
          have ho : Bk X' (w.heap.size + 3) 25 #[v] := (hx _ (by omega)).trans h1
          have hown : OwnL (w.heap.size + 12) X' v ls := h2.up (fun g hg _ => hx g (by omega))
          clear hx hex h h1 h2
          obtain ⟨AV, cV, rfl⟩ := hown.form
          have k0 := hr.b0.cell 0
          have f0 := hr.b0.free 0
          have k1 := hr.b1.cell 0
          have f1 := hr.b1.free 0
          have k2 : X'.cell? ⟨w.heap.size + 1 + 1, 0, none⟩ = some (.int .i64 0) := hr.b2.cell 0
          have f2 : X'.frozen? ⟨w.heap.size + 1 + 1, 0, none⟩ = false := hr.b2.free 0
          have k3 := ho.cell 0
          gi_wp2
          have hr' : ResAt w.heap.size (.slice AV ls.length cV) 0 0 (put3 X' w.heap.size (.slice AV ls.length cV) (.int .i64 ((0 : Nat) : Int)) (.int .i64 ((0 : Nat) : Int))) := hr.put3
          have hd' := (put3_other X' w.heap.size (.slice AV ls.length cV) (.int .i64 ((0 : Nat) : Int)) (.int .i64 ((0 : Nat) : Int)) (w.heap.size + 5) (by omega)).trans hd
          have hown' := hown.up (w' := put3 X' w.heap.size (.slice AV ls.length cV) (.int .i64 ((0 : Nat) : Int)) (.int .i64 ((0 : Nat) : Int))) (fun g hg _ => put3_other _ _ _ _ _ _ (by omega))
          have hbw' := put3_below (v := .slice AV ls.length cV) (a := .int .i64 ((0 : Nat) : Int)) (b := .int .i64 ((0 : Nat) : Int)) hbw
          have e : L6.parse s = (ls, 0, 0) := by rw [HP.out, h4]; rfl
          refine ⟨by simp, .inl ⟨_, _, rfl, run_takeDeferred hd', ?_⟩⟩
          exact ⟨_, parse_results (hr'.same (fun g _ _ => World.putObj_heap_other (by omega))) rfl rfl rfl, .slice AV ls.length cV, by rw [e], by rw [e]; exact (hown'.up (fun g hg _ => World.putObj_heap_other (by omega))).rebase (by omega), Below.put hbw' _ _ (by omega)⟩
        case stop =>
          rintro fn c X ⟨rec, h, rfl⟩
          rw [bz0]
          gi_wp2
          have hkeep : ∀ g, g < w.heap.size + 5 → ((X.putObj (w.heap.size + 6) (.loop (rec .ready none))).heap[g]? = X.heap[g]?) := fun g hg => World.putObj_heap_other (by omega)
          refine ⟨by simp, .inl ⟨_, _, rfl, run_takeDeferred ((World.putObj_heap_other (by omega)).trans h.db), ?_⟩⟩
          obtain ⟨i, c, hr, hp⟩ := h.res
          refine ⟨_, parse_results ((hr.same (X' := X.putObj (w.heap.size + 6) _) (fun g _ _ => World.putObj_heap_other (by omega))).same (fun g _ _ => World.putObj_heap_other (by omega))) rfl rfl rfl, .slice none 0 0, by rw [HP.out, hp], by rw [HP.out, hp]; exact OwnL.nil _ _, Below.put (Below.put h.below _ _ (by omega)) _ _ (by omega)⟩
        case call =>
          intro fn
          rw [bz0]
          generalize hrec : (rec_ fn _ _ _ _ (w.heap.size + 5)) = rec
          show CallsIn Fence.wide 19 Tryd.prog 91 #[.func (.yield (w.heap.size + 6)) #[] #[], .pointer (some ⟨w.heap.size + 4, 0, none⟩)] _ _
          have hbw3 : Below W0.heap.size W0 ((W0.alloc (.deferred (some []))).alloc (.loop (rec .ready none))) := ((Below.refl _ _).alloc (Nat.le_refl _) _).alloc (by simp) _
          have hd3 : ((W0.alloc (.deferred (some []))).alloc (.loop (rec .ready none))).heap[w.heap.size + 5]? = some (.deferred (some [])) := by
            have := (Below.heap_alloc (W0.alloc (.deferred (some []))) (.loop (rec .ready none)) W0.heap.size (by simp)).trans (World.alloc_heap_new W0 _)
            rwa [bz0] at this
          have hr3 : ((W0.alloc (.deferred (some []))).alloc (.loop (rec .ready none))).heap[w.heap.size + 6]? = some (.loop (rec .ready none)) := by
            have := World.alloc_heap_new (W0.alloc (.deferred (some []))) (.loop (rec .ready none))
            rwa [World.size_alloc, bz0] at this
          have hsz3 : ((W0.alloc (.deferred (some []))).alloc (.loop (rec .ready none))).heap.size = w.heap.size + 7 := by simp [bz0]
          have hPA : PA s w rec .ready 0 s ((W0.alloc (.deferred (some []))).alloc (.loop (rec .ready none))) :=
            ⟨⟨[], .slice none 0 0, bo.kept hbw3, OwnL.nil _ _, rfl, rfl⟩, by simp, Nat.le_refl _, r0.same (fun g _ _ => hbw3.block g (by omega)), hd3, hr3, bw0.trans (hbw3.mono (by omega))⟩
          have hbs := bs.kept hbw3
          generalize (W0.alloc (.deferred (some []))).alloc (.loop (rec .ready none)) = W1 at hsz3 hPA hbs ⊢
          clear hbw3 hd3 hr3
          refine (cut1_in 19 (w.heap.size + 6) (by omega) (fun k s' X => PA s w rec .ready k s' X) (fun X => PX s w rec X) W1 ?_ ?_ ?_ ?_ s HS.out (w.heap.size + 4) hbs ?_).mono ?_
          · rw [hsz3]; intro k s' X X' h hm; exact h.mid hm
          · rw [hsz3]; intro X X' h hm; exact h.mid hm
          · intro k s' X h; have := h.num; have := HLIM.out; omega
          · rw [hsz3]
            intro m k s' X hs' hX h
            show YieldAt Fence.wide m Tryd.prog (w.heap.size + 6) #[.int .i64 ((k : Int) + 1), .string ⟨(L6.trim (L6.piece s').1).toArray⟩] X (YPost s w rec (k + 1) (L6.piece s').2 X)
            have hr := h.rb
            rw [← hrec] at hr
            refine yieldAny (m := 18) (yield_at hr rfl { tmps := #[.string ⟨s.toArray⟩, undef, .pointer (some ⟨w.heap.size, 0, none⟩), .pointer (some ⟨w.heap.size + 1, 0, none⟩), .pointer (some ⟨w.heap.size + 1 + 1, 0, none⟩), .int .i64 ((L6.split s).length : Int), .pointer (some ⟨w.heap.size + 3, 0, none⟩), .int .i64 ((k : Int) + 1), .string ⟨(L6.trim (L6.piece s').1).toArray⟩, undef, undef, u11, u12, u13, u14, u15, u16, u17, u18, u19, u20, u21, .int .i64 ((L6.split s).length : Int), .bool (decide ((32768 : Int) < ((L6.split s).length : Int))), .string ⟨s.toArray⟩, .func (.func 91) #[] #[.pointer (some ⟨w.heap.size + 3 + 1, 0, none⟩)], .int .i64 ((k : Int) + 1), .string ⟨(L6.trim (L6.piece s').1).toArray⟩, u28, u29, u30, u31, u32, u33, u34, u35, u36, u37, u38, u39, u40, u41, u42, u43, u44, u45], defers := [] } ?ass ?bod)
            case ass => intro K hK; gi_wp2; exact hK
            case bod =>
              rw [hrec]
              have hB := h.busy (st' := .busy)
              have hXz : X.heap.size ≤ (X.putObj (w.heap.size + 6) (.loop (rec .busy none))).heap.size := by rw [World.putObj_size]; exact Nat.le_refl _
              have hXk : ∀ g, w.heap.size + 7 ≤ g → g < w.heap.size + 7 + 5 → (X.putObj (w.heap.size + 6) (.loop (rec .busy none))).heap[g]? = X.heap[g]? := fun g hg _ => World.putObj_heap_other (by omega)
              generalize X.putObj (w.heap.size + 6) (.loop (rec .busy none)) = X1 at hB hXz hXk ⊢
              have HB := Lib.hid hB
              have HXZ := Lib.hid hXz
              have HXK := Lib.hid hXk
              have HX := Lib.hid hX
              have htl : (L6.trim (L6.piece s').1).length ≤ 1000000000 := by
                have h1 := L6.trim_len (L6.piece s').1
                have h2 := congrArg List.length (L6.piece_app s')
                have h3 := h.slen
                have h4 := HS.out
                simp only [List.length_append] at h2
                omega
              obtain ⟨ls, v, g1, g2, rfl, g4⟩ := hB.out
              rw [L6.split_piece hs'] at g4
              have k0 := hB.res.b0.cell 0
              have f0 := hB.res.b0.free 0
              have k1 := hB.res.b1.cell 0
              have f1 := hB.res.b1.free 0
              have k2 : X1.cell? ⟨w.heap.size + 1 + 1, 0, none⟩ = some (.int .i64 0) := hB.res.b2.cell 0
              have f2 : X1.frozen? ⟨w.heap.size + 1 + 1, 0, none⟩ = false := hB.res.b2.free 0
              have HBO1 := Lib.hid g1
              have HOWN := Lib.hid g2
              have G4 := Lib.hid g4
              have HSL := Lib.hid hs'
              clear h hr hB hX hXz hXk g4 hs' hbs
              generalize htt : L6.trim (L6.piece s').1 = t at htl G4 ⊢
              by_cases hbig : 256 < t.length
              · have hbig' : (256 : Int) < t.length := by omega
                have HPP := Lib.hid (show L6.parseL 0 [] (L6.split s) = ([], ls.length + 1, 6) from by rw [G4.out]; unfold L6.parseL; rw [if_pos hbig])
                clear hbig
                gi_wp2
                exact parse_stop (J := fun X' => PA s w rec .ready (ls.length + 1) (L6.piece s').2 X') HB.out HPP.out HXK.out HXZ.out _ _ rfl rfl
              · have hbig' : (t.length : Int) ≤ 256 := by omega
                have hbig : t.length ≤ 256 := by omega
                have HBG := Lib.hid hbig
                have CW := lwords_any t X1 htl
                cases hw : L6.wordsOf t with
                | none =>
                  have HPP := Lib.hid (show L6.parseL 0 [] (L6.split s) = ([], ls.length + 1, 40) from by rw [G4.out]; unfold L6.parseL; rw [if_neg (by omega), hw])
                  have CWN := Lib.hid (CW.mono (R' := fun e w' => e = .returned (.tuple #[.slice none 0 0, .bool false]) ∧ Below X1.heap.size X1 w') (fun e w' hh => by rw [hw] at hh; exact hh))
                  clear hbig CW hw htl
                  gi_wp2_with (refine ⟨trivial, ?_⟩; gi_at_call 54; refine (CallsIn.inRound _ (callsIn_wide.2 CWN.out)).mono ?_; rintro e w' ⟨rfl, hbw⟩; have hB2 := HB.out.kept hbw; have l0 := hB2.res.b0.cell 0; have e0 := hB2.res.b0.free 0; have l1 := hB2.res.b1.cell 0; have e1 := hB2.res.b1.free 0; have l2 : w'.cell? ⟨w.heap.size + 1 + 1, 0, none⟩ = some (.int .i64 0) := hB2.res.b2.cell 0; have e2 : w'.frozen? ⟨w.heap.size + 1 + 1, 0, none⟩ = false := hB2.res.b2.free 0)
                  exact parse_stop (J := fun X' => PA s w rec .ready (ls.length + 1) (L6.piece s').2 X') hB2 HPP.out (fun g a b => (hbw.block g (by have := HX.out; have := HXZ.out; omega)).trans (HXK.out g a b)) (Nat.le_trans HXZ.out hbw.size) _ _ rfl rfl
                | some ws =>
                  have HWB := Lib.hid (L6.wordsOf_bound hw)
                  have HPP := Lib.hid (show L6.parseL 0 [] (L6.split s) = L6.parseL (ls.length + 1) (ls ++ [L6.line ws]) (L6.split (L6.piece s').2) from by rw [G4.out]; conv => lhs; unfold L6.parseL; rw [if_neg (by omega), hw])
                  have CWS := Lib.hid (CW.mono (R' := fun e w' => ∃ v, e = .returned (.tuple #[v, .bool true]) ∧ OwnS X1.heap.size w' v ws ∧ Below X1.heap.size X1 w') (fun e w' hh => by rw [hw] at hh; exact hh))
                  clear hbig CW hw htl
                  gi_wp2_with (refine ⟨trivial, ?_⟩; gi_at_call 54; refine (CallsIn.inRound _ (callsIn_wide.2 CWS.out)).mono ?_; rintro e w' ⟨vw, rfl, hvw, hbw⟩)
                  have hB2 := HB.out.kept hbw
                  have hown2 : OwnL (w.heap.size + 12) w' v ls := HOWN.out.kept hbw
                  obtain ⟨cs, hcs1, hcs2⟩ := hown2
                  have hbo2 : Bk w' (w.heap.size + 3) 25 #[v] := HBO1.out.kept hbw
                  obtain ⟨AV, cV, rfl⟩ := (Rd.of_own hcs1).form
                  have ko : w'.drew.cell? ⟨w.heap.size + 3, 0, none⟩ = some (.slice AV ls.length cV) := hbo2.cell 0
                  have HZ := Lib.hid (show w.heap.size + 12 ≤ w'.heap.size from by have := HX.out; have := HXZ.out; have := hbw.size; omega)
                  have HLT3 := Lib.hid (show w.heap.size + 3 < w'.heap.size from by have := HZ.out; omega)
                  have CLN := Lib.hid (fun Z (hZ : Below w'.heap.size w' Z) => lline_any vw ws Z ((OwnS.rd hvw).kept hZ) (by have := HWB.out.1; have := HBG.out; omega) (fun x hx => by have := HWB.out.2 x hx; have := HBG.out; omega))
                  have HB2 := Lib.hid hB2
                  have HCS := Lib.hid hcs2
                  have HOW := Lib.hid hcs1
                  have HBO := Lib.hid hbo2
                  have HL1 := Lib.hid (show (ls.length + 1) * 64 ≤ 140737488355328 from by have := hB2.num; have := HLIM.out; omega)
                  have HL2 := Lib.hid (show ls.length + 1 ≤ maxLen from by have := hB2.num; have := HLIM.out; unfold maxLen; omega)
                  have HNUM := Lib.hid (show (L6.split s').length = (L6.split (L6.piece s').2).length + 1 from by rw [L6.split_piece HSL.out]; simp)
                  have HSLEN := Lib.hid (show (L6.piece s').2.length ≤ s'.length from Nat.le_of_lt (L6.piece_left HSL.out))
                  have HKX := Lib.hid (show ∀ g, w.heap.size + 7 ≤ g → g < w.heap.size + 7 + 5 → w'.heap[g]? = X.heap[g]? from fun g a b => (hbw.block g (by have := HX.out; have := HXZ.out; omega)).trans (HXK.out g a b))
                  have HZX := Lib.hid (show X.heap.size ≤ w'.heap.size from Nat.le_trans HXZ.out hbw.size)
                  clear hB2 hcs1 hcs2 hbo2
                  generalize hv : Value.slice AV ls.length cV = v at *
                  refine wpIn_region_any mixed ?_
                  change wpAnyIn _ _ _ _ _ _ _ _ _ w'.drew
                  -- region 15
                  refine wpAnyIn_ready (rs := [0, 1]) (by kernel_rfl) (by simp) ?_
                  refine AllReadyIn.cons rfl (fun K hK => ?_) ?_
                  · go_simp
                    first | (refine hK _ _ ?_; clear hK K) | skip
                    refine wpAnyIn_ready (rs := [1]) (by kernel_rfl) (by simp) ?_
                    refine AllReadyIn.cons rfl (fun K hK => ?_) ?_
                    · go_simp
                      first | (refine hK _ _ ?_; clear hK K) | skip
                      refine wpAnyIn_ready (rs := [2]) (by kernel_rfl) (by simp) ?_
                      refine AllReadyIn.cons rfl (fun K hK => ?_) ?_
                      · go_simp
                        gi_wp2_with (refine ⟨trivial, ?_⟩; gi_at_call 55; refine (CallsIn.inRound _ (callsIn_wide.2 (CLN.out _ (Below.refl _ _).drew))).mono ?_; rintro e w4 ⟨vl, va, rfl, hl4, ha4, hb4⟩; have ko4 := (hb4.cell (p := ⟨w.heap.size + 3, 0, none⟩) HLT3.out).trans ko; have ko5 := World.cell?_alloc_lt w4 (.cells #[vl, .string ⟨(L6.line ws).word.toArray⟩, va] 42) ⟨w.heap.size + 3, 0, none⟩ (Nat.lt_of_lt_of_le HLT3.out hb4.size); rw [ko4] at ko5)
                        first | (refine hK _ _ ?_; clear hK K) | skip
                        refine wpAnyIn_ready (rs := [3]) (by kernel_rfl) (by simp) ?_
                        refine AllReadyIn.cons rfl (fun K hK => ?_) ?_
                        · go_simp
                          first | (refine hK _ _ ?_; clear hK K) | skip
                          refine wpAnyIn_ready (rs := [4]) (by kernel_rfl) (by simp) ?_
                          refine AllReadyIn.cons rfl (fun K hK => ?_) ?_
                          · refine step_appendIn (by rfl) _ _ _ _ (by rfl) llrt (by decide) (w.heap.size + 12) v (by rfl) ls.length cs (own_kept HOW.out (((Below.refl _ _).drew.trans hb4).alloc hb4.size _)) _ (by rfl) 1 [vl, .string ⟨(L6.line ws).word.toArray⟩, va] (Rd.src llrt (Rd.built (Bk.fresh w4 _ #[vl, .string ⟨(L6.line ws).word.toArray⟩, va]) rfl) (one3 hl4 ha4)) HL1.out HL2.out (Nat.le_trans HZ.out (by have := hb4.size; simp at this ⊢; omega)) ?_
                            intro v6 w6 ho6 hb6 hg6
                            obtain ⟨A6, c6, rfl⟩ := (Rd.of_own ho6).form
                            have ko6 := (hg6.block (w.heap.size + 3) (by have := hb4.size; have := HLT3.out; simp at *; omega) (fun e => by have := ownBlock_ge HOW.out e.symm; omega)).trans ((((Below.refl _ _).drew.trans hb4).alloc hb4.size (.cells #[vl, .string ⟨(L6.line ws).word.toArray⟩, va] 42)).block _ HLT3.out)
                            have bo6 : Bk w6 (w.heap.size + 3) 25 #[v] := ko6.trans HBO.out
                            have ka6 := bo6.cell 0
                            have kf6 := bo6.free 0
                            first | (refine hK _ _ ?_; clear hK K) | skip
                            refine wpAnyIn_ready (rs := [5]) (by kernel_rfl) (by simp) ?_
                            refine AllReadyIn.cons rfl (fun K hK => ?_) ?_
                            · go_simp
                              first | (refine hK _ _ ?_; clear hK K) | skip
                              refine wpAnyIn_done (by kernel_rfl) ?_ _
                              exact parse_round HB2.out HBO.out HCS.out HOW.out rfl HZ.out ((Below.refl _ _).drew.trans hb4) hl4 ha4 ho6 hg6 HPP.out HNUM.out HSLEN.out HKX.out HZX.out
                            exact AllReadyIn.nil
                          exact AllReadyIn.nil
                        exact AllReadyIn.nil
                      exact AllReadyIn.nil
                    exact AllReadyIn.nil
                  refine AllReadyIn.cons rfl (fun K hK => ?_) ?_
                  · go_simp
                    first | (refine hK _ _ ?_; clear hK K) | skip
                    refine wpAnyIn_ready (rs := [0, 2]) (by kernel_rfl) (by simp) ?_
                    refine AllReadyIn.cons rfl (fun K hK => ?_) ?_
                    · go_simp
                      first | (refine hK _ _ ?_; clear hK K) | skip
                      refine wpAnyIn_ready (rs := [2]) (by kernel_rfl) (by simp) ?_
                      refine AllReadyIn.cons rfl (fun K hK => ?_) ?_
                      · go_simp
                        gi_wp2_with (refine ⟨trivial, ?_⟩; gi_at_call 55; refine (CallsIn.inRound _ (callsIn_wide.2 (CLN.out _ (Below.refl _ _).drew))).mono ?_; rintro e w4 ⟨vl, va, rfl, hl4, ha4, hb4⟩; have ko4 := (hb4.cell (p := ⟨w.heap.size + 3, 0, none⟩) HLT3.out).trans ko; have ko5 := World.cell?_alloc_lt w4 (.cells #[vl, .string ⟨(L6.line ws).word.toArray⟩, va] 42) ⟨w.heap.size + 3, 0, none⟩ (Nat.lt_of_lt_of_le HLT3.out hb4.size); rw [ko4] at ko5)
                        first | (refine hK _ _ ?_; clear hK K) | skip
                        refine wpAnyIn_ready (rs := [3]) (by kernel_rfl) (by simp) ?_
                        refine AllReadyIn.cons rfl (fun K hK => ?_) ?_
                        · go_simp
                          first | (refine hK _ _ ?_; clear hK K) | skip
                          refine wpAnyIn_ready (rs := [4]) (by kernel_rfl) (by simp) ?_
                          refine AllReadyIn.cons rfl (fun K hK => ?_) ?_
                          · refine step_appendIn (by rfl) _ _ _ _ (by rfl) llrt (by decide) (w.heap.size + 12) v (by rfl) ls.length cs (own_kept HOW.out (((Below.refl _ _).drew.trans hb4).alloc hb4.size _)) _ (by rfl) 1 [vl, .string ⟨(L6.line ws).word.toArray⟩, va] (Rd.src llrt (Rd.built (Bk.fresh w4 _ #[vl, .string ⟨(L6.line ws).word.toArray⟩, va]) rfl) (one3 hl4 ha4)) HL1.out HL2.out (Nat.le_trans HZ.out (by have := hb4.size; simp at this ⊢; omega)) ?_
                            intro v6 w6 ho6 hb6 hg6
                            obtain ⟨A6, c6, rfl⟩ := (Rd.of_own ho6).form
                            have ko6 := (hg6.block (w.heap.size + 3) (by have := hb4.size; have := HLT3.out; simp at *; omega) (fun e => by have := ownBlock_ge HOW.out e.symm; omega)).trans ((((Below.refl _ _).drew.trans hb4).alloc hb4.size (.cells #[vl, .string ⟨(L6.line ws).word.toArray⟩, va] 42)).block _ HLT3.out)
                            have bo6 : Bk w6 (w.heap.size + 3) 25 #[v] := ko6.trans HBO.out
                            have ka6 := bo6.cell 0
                            have kf6 := bo6.free 0
                            first | (refine hK _ _ ?_; clear hK K) | skip
                            refine wpAnyIn_ready (rs := [5]) (by kernel_rfl) (by simp) ?_
                            refine AllReadyIn.cons rfl (fun K hK => ?_) ?_
                            · go_simp
                              first | (refine hK _ _ ?_; clear hK K) | skip
                              refine wpAnyIn_done (by kernel_rfl) ?_ _
                              exact parse_round HB2.out HBO.out HCS.out HOW.out rfl HZ.out ((Below.refl _ _).drew.trans hb4) hl4 ha4 ho6 hg6 HPP.out HNUM.out HSLEN.out HKX.out HZX.out
                            exact AllReadyIn.nil
                          exact AllReadyIn.nil
                        exact AllReadyIn.nil
                      exact AllReadyIn.nil
                    refine AllReadyIn.cons rfl (fun K hK => ?_) ?_
                    · go_simp
                      gi_wp2_with (refine ⟨trivial, ?_⟩; gi_at_call 55; refine (CallsIn.inRound _ (callsIn_wide.2 (CLN.out _ (Below.refl _ _).drew))).mono ?_; rintro e w4 ⟨vl, va, rfl, hl4, ha4, hb4⟩; have ko4 := (hb4.cell (p := ⟨w.heap.size + 3, 0, none⟩) HLT3.out).trans ko; have ko5 := World.cell?_alloc_lt w4 (.cells #[vl, .string ⟨(L6.line ws).word.toArray⟩, va] 42) ⟨w.heap.size + 3, 0, none⟩ (Nat.lt_of_lt_of_le HLT3.out hb4.size); rw [ko4] at ko5)
                      first | (refine hK _ _ ?_; clear hK K) | skip
                      refine wpAnyIn_ready (rs := [0, 3]) (by kernel_rfl) (by simp) ?_
                      refine AllReadyIn.cons rfl (fun K hK => ?_) ?_
                      · go_simp
                        first | (refine hK _ _ ?_; clear hK K) | skip
                        refine wpAnyIn_ready (rs := [3]) (by kernel_rfl) (by simp) ?_
                        refine AllReadyIn.cons rfl (fun K hK => ?_) ?_
                        · go_simp
                          first | (refine hK _ _ ?_; clear hK K) | skip
                          refine wpAnyIn_ready (rs := [4]) (by kernel_rfl) (by simp) ?_
                          refine AllReadyIn.cons rfl (fun K hK => ?_) ?_
                          · refine step_appendIn (by rfl) _ _ _ _ (by rfl) llrt (by decide) (w.heap.size + 12) v (by rfl) ls.length cs (own_kept HOW.out (((Below.refl _ _).drew.trans hb4).alloc hb4.size _)) _ (by rfl) 1 [vl, .string ⟨(L6.line ws).word.toArray⟩, va] (Rd.src llrt (Rd.built (Bk.fresh w4 _ #[vl, .string ⟨(L6.line ws).word.toArray⟩, va]) rfl) (one3 hl4 ha4)) HL1.out HL2.out (Nat.le_trans HZ.out (by have := hb4.size; simp at this ⊢; omega)) ?_
                            intro v6 w6 ho6 hb6 hg6
                            obtain ⟨A6, c6, rfl⟩ := (Rd.of_own ho6).form
                            have ko6 := (hg6.block (w.heap.size + 3) (by have := hb4.size; have := HLT3.out; simp at *; omega) (fun e => by have := ownBlock_ge HOW.out e.symm; omega)).trans ((((Below.refl _ _).drew.trans hb4).alloc hb4.size (.cells #[vl, .string ⟨(L6.line ws).word.toArray⟩, va] 42)).block _ HLT3.out)
                            have bo6 : Bk w6 (w.heap.size + 3) 25 #[v] := ko6.trans HBO.out
                            have ka6 := bo6.cell 0
                            have kf6 := bo6.free 0
                            first | (refine hK _ _ ?_; clear hK K) | skip
                            refine wpAnyIn_ready (rs := [5]) (by kernel_rfl) (by simp) ?_
                            refine AllReadyIn.cons rfl (fun K hK => ?_) ?_
                            · go_simp
                              first | (refine hK _ _ ?_; clear hK K) | skip
                              refine wpAnyIn_done (by kernel_rfl) ?_ _
                              exact parse_round HB2.out HBO.out HCS.out HOW.out rfl HZ.out ((Below.refl _ _).drew.trans hb4) hl4 ha4 ho6 hg6 HPP.out HNUM.out HSLEN.out HKX.out HZX.out
                            exact AllReadyIn.nil
                          exact AllReadyIn.nil
                        exact AllReadyIn.nil
                      refine AllReadyIn.cons rfl (fun K hK => ?_) ?_
                      · go_simp
                        first | (refine hK _ _ ?_; clear hK K) | skip
                        refine wpAnyIn_ready (rs := [0]) (by kernel_rfl) (by simp) ?_
                        refine AllReadyIn.cons rfl (fun K hK => ?_) ?_
                        · go_simp
                          first | (refine hK _ _ ?_; clear hK K) | skip
                          refine wpAnyIn_ready (rs := [4]) (by kernel_rfl) (by simp) ?_
                          refine AllReadyIn.cons rfl (fun K hK => ?_) ?_
                          · refine step_appendIn (by rfl) _ _ _ _ (by rfl) llrt (by decide) (w.heap.size + 12) v (by rfl) ls.length cs (own_kept HOW.out (((Below.refl _ _).drew.trans hb4).alloc hb4.size _)) _ (by rfl) 1 [vl, .string ⟨(L6.line ws).word.toArray⟩, va] (Rd.src llrt (Rd.built (Bk.fresh w4 _ #[vl, .string ⟨(L6.line ws).word.toArray⟩, va]) rfl) (one3 hl4 ha4)) HL1.out HL2.out (Nat.le_trans HZ.out (by have := hb4.size; simp at this ⊢; omega)) ?_
                            intro v6 w6 ho6 hb6 hg6
                            obtain ⟨A6, c6, rfl⟩ := (Rd.of_own ho6).form
                            have ko6 := (hg6.block (w.heap.size + 3) (by have := hb4.size; have := HLT3.out; simp at *; omega) (fun e => by have := ownBlock_ge HOW.out e.symm; omega)).trans ((((Below.refl _ _).drew.trans hb4).alloc hb4.size (.cells #[vl, .string ⟨(L6.line ws).word.toArray⟩, va] 42)).block _ HLT3.out)
                            have bo6 : Bk w6 (w.heap.size + 3) 25 #[v] := ko6.trans HBO.out
                            have ka6 := bo6.cell 0
                            have kf6 := bo6.free 0
                            first | (refine hK _ _ ?_; clear hK K) | skip
                            refine wpAnyIn_ready (rs := [5]) (by kernel_rfl) (by simp) ?_
                            refine AllReadyIn.cons rfl (fun K hK => ?_) ?_
                            · go_simp
                              first | (refine hK _ _ ?_; clear hK K) | skip
                              refine wpAnyIn_done (by kernel_rfl) ?_ _
                              exact parse_round HB2.out HBO.out HCS.out HOW.out rfl HZ.out ((Below.refl _ _).drew.trans hb4) hl4 ha4 ho6 hg6 HPP.out HNUM.out HSLEN.out HKX.out HZX.out
                            exact AllReadyIn.nil
                          exact AllReadyIn.nil
                        exact AllReadyIn.nil
                      exact AllReadyIn.nil
                    exact AllReadyIn.nil
                  exact AllReadyIn.nil
                  -- behind region 15
          · intro W2 hb2; exact hPA.kept hb2
          · rintro e X ⟨hv, (⟨k, h⟩ | h)⟩
            · exact ⟨hv, .inl ⟨h.rb, k, rec, h⟩⟩
            · exact ⟨hv, .inr ⟨_, h.rb, rec, h, rfl⟩⟩
end Go.Proofs.YtfafdkbnmfpbmaaDoor

/- The walks of whole, ContainsFunc, Right. -/
namespace Go.Proofs.YtfafdkbnmfpbmaaDoor
open Go.RowKit Kit
set_option linter.unusedVariables false
set_option linter.unusedSimpArgs false

theorem L6.index_mem (c : UInt8) : ∀ l : List UInt8, decide (0 ≤ Lib.indexByte l c) = decide (c ∈ l)
  | [] => by simp [Lib.indexByte]
  | d :: t => by
    have ih := L6.index_mem c t
    unfold Lib.indexByte
    by_cases h : d = c
    · subst h; simp
    · have h' : ¬ c = d := fun e => h e.symm
      rw [if_neg (by simpa using h)]
      have e1 : (c ∈ d :: t) ↔ c ∈ t := by simp [h']
      rw [decide_eq_decide] at ih ⊢
      rw [e1, ← ih]
      have hg := Lib.indexByte_ge t c
      by_cases hm : Lib.indexByte t c = -1
      · rw [if_pos (by simpa using hm)]
        omega
      · rw [if_neg (by simpa using hm)]
        omega
/-- Is a text just one word? -/
def L6.whole (s : List UInt8) : Bool := decide (L6.wordsOf s = some [s]) && decide (10 ∉ s)
def L6.quoted (s : List UInt8) : Bool := Lib.hasPrefix s [34]
/-- May a line be? -/
def L6.right (x : L6.Line) : Bool := !(x.labels.any (fun s => !L6.whole s) || x.labels.any L6.quoted || x.args.any (fun s => !L6.whole s)) &&
  if x.word = [] then decide (x.args = []) else L6.whole x.word && (!L6.quoted x.word && !L6.label x.word)
theorem lwhole_any (s : List UInt8) (w : World) (hs : s.length ≤ 1000000000) : Calls Tryd.prog 96 #[.string ⟨s.toArray⟩] w fun e w' => e = .returned (.bool (L6.whole s)) ∧ Below w.heap.size w w' := by
  have CW := lwords_any s w hs
  have CC := Lib.hid (show ∀ W, Calls Tryd.prog 125 #[.string ⟨s.toArray⟩, .string ⟨#[10]⟩] W fun e w' => e = .returned (.bool (decide (10 ∈ s))) ∧ W = w' from fun W => (Tryd.strings_Contains_one ⟨s.toArray⟩ 10 W).mono fun e w' h => ⟨by rw [h.1]; exact lret_bool (L6.index_mem 10 s), h.2.symm⟩)
  cases hw : L6.wordsOf s with
  | none =>
    have CN := Lib.hid (CW.mono (R' := fun e w' => e = .returned (.tuple #[.slice none 0 0, .bool false]) ∧ Below w.heap.size w w') (fun e w' hh => by rw [hw] at hh; exact hh))
    have HR := Lib.hid (show L6.whole s = false from by unfold L6.whole; rw [hw]; rfl)
    clear CW hw
    go_enter Tryd.func96, Tryd.ntmps96
    go_wp2_with (go_at_call 54; refine CN.out.mono ?_; rintro e w1 ⟨rfl, hb1⟩)
    go_ret
    exact ⟨lret_bool HR.out.symm, hb1⟩
  | some ws =>
    have CS := Lib.hid (CW.mono (R' := fun e w' => ∃ v, e = .returned (.tuple #[v, .bool true]) ∧ OwnS w.heap.size w' v ws ∧ Below w.heap.size w w') (fun e w' hh => by rw [hw] at hh; exact hh))
    have HW := Lib.hid hw
    clear CW hw
    match ws with
    | [] =>
      have HR := Lib.hid (show L6.whole s = false from by unfold L6.whole; rw [HW.out]; simp)
      go_enter Tryd.func96, Tryd.ntmps96
      go_wp2_with (go_at_call 54; refine CS.out.mono ?_; rintro e w1 ⟨v, rfl, hv, hb1⟩; obtain ⟨A, c, rfl⟩ := hv.form)
      go_ret
      exact ⟨lret_bool HR.out.symm, hb1⟩
    | x :: y :: t =>
      have HR := Lib.hid (show L6.whole s = false from by unfold L6.whole; rw [HW.out]; simp)
      have hlen : (((x :: y :: t).length : Int) == 1) = false := by rw [beq_eq_false_iff_ne]; simp; omega
      generalize hg : (x :: y :: t).length = n at hlen
      go_enter Tryd.func96, Tryd.ntmps96
      go_wp2_with (go_at_call 54; refine CS.out.mono ?_; rintro e w1 ⟨v, rfl, hv, hb1⟩; obtain ⟨A, c, rfl⟩ := hv.form; rw [hg])
      go_ret
      exact ⟨lret_bool HR.out.symm, hb1⟩
    | [x] =>
      by_cases hx : x = s
      · subst hx
        have HR := Lib.hid (show L6.whole x = !decide (10 ∈ x) from by unfold L6.whole; rw [HW.out]; simp)
        clear HW
        generalize decide (10 ∈ x) = b at *
        go_enter Tryd.func96, Tryd.ntmps96
        go_wp2_with (first | (go_at_call 54; refine CS.out.mono ?_; rintro e w1 ⟨v, rfl, hv, hb1⟩; obtain ⟨g, off, c, rfl, hg, hc⟩ := (OwnS.rd hv).at (k := 0) (by simp); simp only [Nat.add_zero, List.getD_cons_zero, List.length_cons, List.length_nil] at hc) | (go_at_call 125; refine (CC.out _).mono ?_; rintro e w' ⟨rfl, rfl⟩))
        go_ret
        exact ⟨lret_bool HR.out.symm, hb1⟩
      · have hxx : (x == s) = false := by rw [beq_eq_false_iff_ne]; exact hx
        have HR := Lib.hid (show L6.whole s = false from by unfold L6.whole; rw [HW.out]; simp [hx])
        clear HW hx
        go_enter Tryd.func96, Tryd.ntmps96
        go_wp2_with (go_at_call 54; refine CS.out.mono ?_; rintro e w1 ⟨v, rfl, hv, hb1⟩; obtain ⟨g, off, c, rfl, hg, hc⟩ := (OwnS.rd hv).at (k := 0) (by simp); simp only [Nat.add_zero, List.getD_cons_zero, List.length_cons, List.length_nil] at hc)
        go_ret
        exact ⟨lret_bool HR.out.symm, hb1⟩
theorem lbad_any (s : List UInt8) (w : World) (hs : s.length ≤ 1000000000) : Calls Tryd.prog 95 #[.string ⟨s.toArray⟩] w fun e w' => e = .returned (.bool (!L6.whole s)) ∧ Below w.heap.size w w' := by
  have CW := Lib.hid (lwhole_any s w hs)
  go_enter Tryd.func95, Tryd.ntmps95
  go_wp2_with (go_at_call 96; refine CW.out.mono ?_; rintro e w1 ⟨rfl, hb1⟩)
  go_ret
  exact ⟨rfl, hb1⟩
theorem lquoted_any (s : List UInt8) (w : World) (hs : s.length ≤ 1000000000) : Calls Tryd.prog 97 #[.string ⟨s.toArray⟩] w fun e w' => e = .returned (.bool (L6.quoted s)) ∧ Below w.heap.size w w' := by
  have CP := Lib.hid (fun W => Tryd.strings_HasPrefix ⟨s.toArray⟩ ⟨#[34]⟩ W)
  go_enter Tryd.func97, Tryd.ntmps97
  go_wp2_with (go_at_call 35; refine (CP.out _).mono ?_; rintro e w' ⟨rfl, rfl⟩)
  go_ret
  exact ⟨rfl, Below.refl _ _⟩
/-- The index that IndexFunc tells. -/
def L6.idx (p : List UInt8 → Bool) (l : List (List UInt8)) : Int := if l.any p then (l.findIdx p : Nat) else -1
theorem L6.idx_yes {p : List UInt8 → Bool} {l : List (List UInt8)} {k : Nat} (hk : k < l.length) (h : p (l.getD k []) = true) (hno : ∀ j, j < k → p (l.getD j []) = false) : L6.idx p l = k := by
  have hm : l.getD k [] ∈ l := by rw [List.getD, List.getElem?_eq_getElem hk]; exact List.getElem_mem hk
  have ha : l.any p = true := List.any_eq_true.2 ⟨_, hm, h⟩
  unfold L6.idx
  rw [if_pos ha, (List.findIdx_eq hk).2 ⟨by simpa [List.getD, hk] using h, fun j hj => by have := hno j hj; rw [List.getD, List.getElem?_eq_getElem (by omega)] at this; simpa using this⟩]
theorem L6.idx_no {p : List UInt8 → Bool} {l : List (List UInt8)} (hno : ∀ j, j < l.length → p (l.getD j []) = false) : L6.idx p l = -1 := by
  have ha : ¬ l.any p = true := by
    intro h
    obtain ⟨x, hx, hp⟩ := List.any_eq_true.1 h
    obtain ⟨i, hi, rfl⟩ := List.mem_iff_getElem.1 hx
    have := hno i hi
    rw [List.getD, List.getElem?_eq_getElem hi] at this
    simp only [Option.getD_some] at this
    rw [hp] at this; cases this
  unfold L6.idx
  rw [if_neg ha]
theorem L6.idx_any (p : List UInt8 → Bool) (l : List (List UInt8)) : decide ((0 : Int) ≤ L6.idx p l) = l.any p := by
  unfold L6.idx
  cases h : l.any p
  · simp
  · simp
theorem lret_int {a b : Int} (h : a = b) : Ending.returned (.int .i64 a) = .returned (.int .i64 b) := by rw [h]

set_option maxRecDepth 20000 in
set_option maxHeartbeats 1000000 in
theorem lindex_bad (v : Value) (l : List (List UInt8)) (w : World) (h : RdS w v l) (hl : l.length ≤ 1000000000) (hs : ∀ x ∈ l, x.length ≤ 1000000000) :
    Calls Tryd.prog 62 #[v, .func (.func 95) #[] #[]] w fun e w' => e = .returned (.int .i64 (L6.idx (fun s => !L6.whole s) l)) ∧ Below w.heap.size w w' := by
  have HH := Lib.hid h
  have HL := Lib.hid hl
  have HS := Lib.hid hs
  have HY := Lib.hid (fun (k : Nat) hk h hno => L6.idx_yes (p := fun s => !L6.whole s) (l := l) (k := k) hk h hno)
  have HNO := Lib.hid (fun hno => L6.idx_no (p := fun s => !L6.whole s) (l := l) hno)
  obtain ⟨A, c, rfl⟩ := h.form
  clear h hl hs
  go_enter Tryd.func62, Tryd.ntmps62
  go_wp2_with fail
  go_loopw [8] (fun i wr => ∃ k : Nat, k ≤ l.length ∧ i = .int .i64 (k : Int) ∧ (∀ j, j < k → (fun s => !L6.whole s) (l.getD j []) = false) ∧ Below w.heap.size w wr) (fun i _ => l.length - (intOf i).toNat)
  case atStart => exact ⟨0, Nat.zero_le _, rfl, fun j hj => absurd hj (by omega), Below.refl _ _⟩
  case round =>
    obtain ⟨k, hk, rfl, hno, hbr⟩ := hrel
    have HN := Lib.hid hno
    have HBR := Lib.hid hbr
    clear hno hbr
    by_cases hlt : k < l.length
    · have hlt' : (k : Int) < (l.length : Int) := by omega
      have hw1 : IntKind.i64.wrap ((k : Int) + 1) = (k : Int) + 1 := by have := HL.out; rw [IntKind.wrap_i64]; omega
      obtain ⟨g, off, c', e, hg, hcell⟩ := HH.out.at hlt
      injection e with e1 e2 e3
      subst e1 e3
      have hcr : wr.cell? ⟨g, off + k, none⟩ = some (.string ⟨(l.getD k []).toArray⟩) := (HBR.out.cell (p := ⟨g, off + k, none⟩) hg).trans hcell
      have hxl : (l.getD k []).length ≤ 1000000000 := HS.out _ (by rw [List.getD, List.getElem?_eq_getElem hlt]; exact List.getElem_mem hlt)
      have HLT := Lib.hid hlt
      have HYK := Lib.hid (fun h => HY.out k HLT.out h HN.out)
      have HNK := Lib.hid (fun (h : (fun s => !L6.whole s) (l.getD k []) = false) j (hj : j < k + 1) => show (fun s => !L6.whole s) (l.getD j []) = false from by
        by_cases e : j = k
        · rw [e]; exact h
        · exact HN.out j (by omega))
      clear hcell hlt
      generalize l.getD k [] = x at *
      have CB := Lib.hid (lbad_any x wr hxl)
      cases hb : (fun s => !L6.whole s) x
      · have CF := Lib.hid (CB.out.mono (R' := fun e w' => e = .returned (.bool false) ∧ Below wr.heap.size wr w') (fun e w' hh => ⟨hh.1.trans (lret_bool hb), hh.2⟩))
        have HK := Lib.hid (HNK.out hb)
        clear hb CB HNK HYK
        go_wp2_with (go_at_call 95; refine CF.out.mono ?_; rintro e w1 ⟨rfl, hb1⟩)
        go_roundw
        case rel => exact ⟨k + 1, HLT.out, by simp, HK.out, HBR.out.trans (hb1.mono HBR.out.size)⟩
        case measure => simp [intOf]; have := HLT.out; omega
      · have CF := Lib.hid (CB.out.mono (R' := fun e w' => e = .returned (.bool true) ∧ Below wr.heap.size wr w') (fun e w' hh => ⟨hh.1.trans (lret_bool hb), hh.2⟩))
        have HK := Lib.hid (HYK.out hb)
        clear hb CB HNK HYK
        go_wp2_with (go_at_call 95; refine CF.out.mono ?_; rintro e w1 ⟨rfl, hb1⟩)
        go_ret
        exact ⟨lret_int HK.out.symm, HBR.out.trans (hb1.mono HBR.out.size)⟩
    · obtain rfl : k = l.length := by omega
      have HR := Lib.hid (HNO.out HN.out)
      go_wp2_with fail
      go_ret
      exact ⟨lret_int HR.out.symm, HBR.out⟩
theorem lcontains_bad (v : Value) (l : List (List UInt8)) (w : World) (h : RdS w v l) (hl : l.length ≤ 1000000000) (hs : ∀ x ∈ l, x.length ≤ 1000000000) :
    Calls Tryd.prog 33 #[v, .func (.func 95) #[] #[]] w fun e w' => e = .returned (.bool (l.any (fun s => !L6.whole s))) ∧ Below w.heap.size w w' := by
  have CI := Lib.hid (lindex_bad v l w h hl hs)
  have HA := Lib.hid (L6.idx_any (fun s => !L6.whole s) l)
  obtain ⟨A, c, rfl⟩ := h.form
  go_enter Tryd.func33, Tryd.ntmps33
  go_wp2_with (go_at_call 62; refine CI.out.mono ?_; rintro e w1 ⟨rfl, hb1⟩)
  go_ret
  exact ⟨lret_bool HA.out, hb1⟩

set_option maxRecDepth 20000 in
set_option maxHeartbeats 1000000 in
theorem lindex_quoted (v : Value) (l : List (List UInt8)) (w : World) (h : RdS w v l) (hl : l.length ≤ 1000000000) (hs : ∀ x ∈ l, x.length ≤ 1000000000) :
    Calls Tryd.prog 62 #[v, .func (.func 97) #[] #[]] w fun e w' => e = .returned (.int .i64 (L6.idx (L6.quoted) l)) ∧ Below w.heap.size w w' := by
  have HH := Lib.hid h
  have HL := Lib.hid hl
  have HS := Lib.hid hs
  have HY := Lib.hid (fun (k : Nat) hk h hno => L6.idx_yes (p := L6.quoted) (l := l) (k := k) hk h hno)
  have HNO := Lib.hid (fun hno => L6.idx_no (p := L6.quoted) (l := l) hno)
  obtain ⟨A, c, rfl⟩ := h.form
  clear h hl hs
  go_enter Tryd.func62, Tryd.ntmps62
  go_wp2_with fail
  go_loopw [8] (fun i wr => ∃ k : Nat, k ≤ l.length ∧ i = .int .i64 (k : Int) ∧ (∀ j, j < k → (L6.quoted) (l.getD j []) = false) ∧ Below w.heap.size w wr) (fun i _ => l.length - (intOf i).toNat)
  case atStart => exact ⟨0, Nat.zero_le _, rfl, fun j hj => absurd hj (by omega), Below.refl _ _⟩
  case round =>
    obtain ⟨k, hk, rfl, hno, hbr⟩ := hrel
    have HN := Lib.hid hno
    have HBR := Lib.hid hbr
    clear hno hbr
    by_cases hlt : k < l.length
    · have hlt' : (k : Int) < (l.length : Int) := by omega
      have hw1 : IntKind.i64.wrap ((k : Int) + 1) = (k : Int) + 1 := by have := HL.out; rw [IntKind.wrap_i64]; omega
      obtain ⟨g, off, c', e, hg, hcell⟩ := HH.out.at hlt
      injection e with e1 e2 e3
      subst e1 e3
      have hcr : wr.cell? ⟨g, off + k, none⟩ = some (.string ⟨(l.getD k []).toArray⟩) := (HBR.out.cell (p := ⟨g, off + k, none⟩) hg).trans hcell
      have hxl : (l.getD k []).length ≤ 1000000000 := HS.out _ (by rw [List.getD, List.getElem?_eq_getElem hlt]; exact List.getElem_mem hlt)
      have HLT := Lib.hid hlt
      have HYK := Lib.hid (fun h => HY.out k HLT.out h HN.out)
      have HNK := Lib.hid (fun (h : (L6.quoted) (l.getD k []) = false) j (hj : j < k + 1) => show (L6.quoted) (l.getD j []) = false from by
        by_cases e : j = k
        · rw [e]; exact h
        · exact HN.out j (by omega))
      clear hcell hlt
      generalize l.getD k [] = x at *
      have CB := Lib.hid (lquoted_any x wr hxl)
      cases hb : (L6.quoted) x
      · have CF := Lib.hid (CB.out.mono (R' := fun e w' => e = .returned (.bool false) ∧ Below wr.heap.size wr w') (fun e w' hh => ⟨hh.1.trans (lret_bool hb), hh.2⟩))
        have HK := Lib.hid (HNK.out hb)
        clear hb CB HNK HYK
        go_wp2_with (go_at_call 97; refine CF.out.mono ?_; rintro e w1 ⟨rfl, hb1⟩)
        go_roundw
        case rel => exact ⟨k + 1, HLT.out, by simp, HK.out, HBR.out.trans (hb1.mono HBR.out.size)⟩
        case measure => simp [intOf]; have := HLT.out; omega
      · have CF := Lib.hid (CB.out.mono (R' := fun e w' => e = .returned (.bool true) ∧ Below wr.heap.size wr w') (fun e w' hh => ⟨hh.1.trans (lret_bool hb), hh.2⟩))
        have HK := Lib.hid (HYK.out hb)
        clear hb CB HNK HYK
        go_wp2_with (go_at_call 97; refine CF.out.mono ?_; rintro e w1 ⟨rfl, hb1⟩)
        go_ret
        exact ⟨lret_int HK.out.symm, HBR.out.trans (hb1.mono HBR.out.size)⟩
    · obtain rfl : k = l.length := by omega
      have HR := Lib.hid (HNO.out HN.out)
      go_wp2_with fail
      go_ret
      exact ⟨lret_int HR.out.symm, HBR.out⟩
theorem lcontains_quoted (v : Value) (l : List (List UInt8)) (w : World) (h : RdS w v l) (hl : l.length ≤ 1000000000) (hs : ∀ x ∈ l, x.length ≤ 1000000000) :
    Calls Tryd.prog 33 #[v, .func (.func 97) #[] #[]] w fun e w' => e = .returned (.bool (l.any (L6.quoted))) ∧ Below w.heap.size w w' := by
  have CI := Lib.hid (lindex_quoted v l w h hl hs)
  have HA := Lib.hid (L6.idx_any (L6.quoted) l)
  obtain ⟨A, c, rfl⟩ := h.form
  go_enter Tryd.func33, Tryd.ntmps33
  go_wp2_with (go_at_call 62; refine CI.out.mono ?_; rintro e w1 ⟨rfl, hb1⟩)
  go_ret
  exact ⟨lret_bool HA.out, hb1⟩
end Go.Proofs.YtfafdkbnmfpbmaaDoor

/- The walk of Right. -/
namespace Go.Proofs.YtfafdkbnmfpbmaaDoor
open Go.RowKit Kit
set_option linter.unusedVariables false
set_option linter.unusedSimpArgs false

/-- What a list of texts may hold here. -/
def L6.Few1 (l : List (List UInt8)) : Prop := l.length ≤ 1000000000 ∧ ∀ x ∈ l, x.length ≤ 1000000000
def L6.Line.Few (x : L6.Line) : Prop := L6.Few1 x.labels ∧ x.word.length ≤ 1000000000 ∧ L6.Few1 x.args
theorem L6.Line.Few.fits {x : L6.Line} (h : x.Few) : x.fits := ⟨h.1.1, h.2.2.1⟩
/-- The cells of a line that lies in a block of its own. -/
theorem line_boxed (T : TypeId) (w : World) (vl va : Value) (s : ByteArray) : ∀ W', Below (w.heap.size + 1) (w.alloc (.cells #[vl, .string s, va] T)) W' →
    (W'.cell? ⟨w.heap.size, 0, none⟩ = some vl ∧ W'.cell? ⟨w.heap.size, 1, none⟩ = some (.string s) ∧ W'.cell? ⟨w.heap.size, 2, none⟩ = some va) ∧ Below w.heap.size w W' := fun W' hb => by
  have hk := Bk.fresh w T #[vl, .string s, va]
  have hk' := hk.below hb (Nat.lt_succ_self _)
  exact ⟨⟨hk'.cell 0, hk'.cell 1, hk'.cell 2⟩, ((Below.refl _ _).alloc (Nat.le_refl _) _).trans (hb.mono (Nat.le_succ _))⟩
theorem L6.right_labels {x : L6.Line} (h : x.labels.any (fun s => !L6.whole s) = true) : L6.right x = false := by unfold L6.right; rw [h]; rfl
theorem L6.right_quoted {x : L6.Line} (h : x.labels.any L6.quoted = true) : L6.right x = false := by unfold L6.right; rw [h]; simp
theorem L6.right_args {x : L6.Line} (h : x.args.any (fun s => !L6.whole s) = true) : L6.right x = false := by unfold L6.right; rw [h]; simp
theorem L6.right_rest {x : L6.Line} (h1 : x.labels.any (fun s => !L6.whole s) = false) (h2 : x.labels.any L6.quoted = false) (h3 : x.args.any (fun s => !L6.whole s) = false) :
    L6.right x = if x.word = [] then decide (x.args = []) else L6.whole x.word && (!L6.quoted x.word && !L6.label x.word) := by unfold L6.right; rw [h1, h2, h3]; rfl
set_option maxRecDepth 100000 in
set_option maxHeartbeats 2000000 in
theorem lright_any (vl va : Value) (x : L6.Line) (w : World) (hl : RdS w vl x.labels) (ha : RdS w va x.args) (hf : x.Few) :
    Calls Tryd.prog 56 #[.agg #[vl, .string ⟨x.word.toArray⟩, va]] w fun e w' => e = .returned (.bool (L6.right x)) ∧ Below w.heap.size w w' := by
  obtain ⟨A1, c1, rfl⟩ := hl.form
  obtain ⟨A2, c2, rfl⟩ := ha.form
  obtain ⟨w0, hw0⟩ : ∃ w0, w.alloc (.cells #[.slice A1 x.labels.length c1, .string ⟨x.word.toArray⟩, .slice A2 x.args.length c2] 42) = w0 := ⟨_, rfl⟩
  have HC := Lib.hid (line_boxed 42 w (.slice A1 x.labels.length c1) (.slice A2 x.args.length c2) ⟨x.word.toArray⟩)
  have HZ := Lib.hid (show w.heap.size + 1 ≤ (w.alloc (.cells #[.slice A1 x.labels.length c1, .string ⟨x.word.toArray⟩, .slice A2 x.args.length c2] 42)).heap.size from by simp)
  rw [hw0] at HC HZ
  have K1 := Lib.hid (show ∀ W', Below (w.heap.size + 1) w0 W' → Calls Tryd.prog 33 #[.slice A1 x.labels.length c1, .func (.func 95) #[] #[]] W' fun e w' => e = .returned (.bool (x.labels.any (fun s => !L6.whole s))) ∧ Below (w.heap.size + 1) w0 w' from fun W' hb => (lcontains_bad _ _ W' (hl.kept (HC.out _ hb).2) hf.1.1 hf.1.2).mono fun e w' hh => ⟨hh.1, hb.trans (hh.2.mono (Nat.le_trans HZ.out hb.size))⟩)
  have K2 := Lib.hid (show ∀ W', Below (w.heap.size + 1) w0 W' → Calls Tryd.prog 33 #[.slice A1 x.labels.length c1, .func (.func 97) #[] #[]] W' fun e w' => e = .returned (.bool (x.labels.any L6.quoted)) ∧ Below (w.heap.size + 1) w0 w' from fun W' hb => (lcontains_quoted _ _ W' (hl.kept (HC.out _ hb).2) hf.1.1 hf.1.2).mono fun e w' hh => ⟨hh.1, hb.trans (hh.2.mono (Nat.le_trans HZ.out hb.size))⟩)
  have K3 := Lib.hid (show ∀ W', Below (w.heap.size + 1) w0 W' → Calls Tryd.prog 33 #[.slice A2 x.args.length c2, .func (.func 95) #[] #[]] W' fun e w' => e = .returned (.bool (x.args.any (fun s => !L6.whole s))) ∧ Below (w.heap.size + 1) w0 w' from fun W' hb => (lcontains_bad _ _ W' (ha.kept (HC.out _ hb).2) hf.2.2.1 hf.2.2.2).mono fun e w' hh => ⟨hh.1, hb.trans (hh.2.mono (Nat.le_trans HZ.out hb.size))⟩)
  have KW := Lib.hid (show ∀ W', Below (w.heap.size + 1) w0 W' → Calls Tryd.prog 96 #[.string ⟨x.word.toArray⟩] W' fun e w' => e = .returned (.bool (L6.whole x.word)) ∧ Below (w.heap.size + 1) w0 w' from fun W' hb => (lwhole_any x.word W' hf.2.1).mono fun e w' hh => ⟨hh.1, hb.trans (hh.2.mono (Nat.le_trans HZ.out hb.size))⟩)
  have KQ := Lib.hid (show ∀ W', Below (w.heap.size + 1) w0 W' → Calls Tryd.prog 97 #[.string ⟨x.word.toArray⟩] W' fun e w' => e = .returned (.bool (L6.quoted x.word)) ∧ Below (w.heap.size + 1) w0 w' from fun W' hb => (lquoted_any x.word W' hf.2.1).mono fun e w' hh => ⟨hh.1, hb.trans (hh.2.mono (Nat.le_trans HZ.out hb.size))⟩)
  have KL := Lib.hid (show ∀ W', Calls Tryd.prog 94 #[.string ⟨x.word.toArray⟩] W' fun e w' => e = .returned (.bool (L6.label x.word)) ∧ W' = w' from fun W' => llabel_any x.word W' (by have := hf.2.1; unfold maxLen; omega))
  have R1 := Lib.hid (L6.right_labels (x := x))
  have R2 := Lib.hid (L6.right_quoted (x := x))
  have R3 := Lib.hid (L6.right_args (x := x))
  have R4 := Lib.hid (L6.right_rest (x := x))
  have HE : Hid (x.args = [] ↔ x.args.length = 0) := Lib.hid (by cases x.args <;> simp)
  clear hl ha hf
  generalize x.labels.any (fun s => !L6.whole s) = b1 at *
  generalize x.labels.any L6.quoted = b2 at *
  generalize x.args.any (fun s => !L6.whole s) = b3 at *
  generalize hn1 : x.labels.length = n1 at *
  generalize hn2 : x.args.length = n2 at *
  generalize hs : x.word = s at *
  clear hn1 hn2 hs
  go_enter Tryd.func56, Tryd.ntmps56
  obtain ⟨⟨q0, q1, q2⟩, _⟩ := HC.out _ (Below.refl _ _)
  cases b1
  · cases b2
    · cases b3
      · have HR := Lib.hid (R4.out rfl rfl rfl)
        clear R1 R2 R3 R4
        by_cases hw : s = []
        · subst hw
          have HR2 := Lib.hid (show L6.right x = decide (n2 = 0) from by rw [HR.out, if_pos rfl, decide_eq_decide]; exact HE.out)
          clear HR
          by_cases h0 : n2 = 0
          · subst h0
            go_wp2_with (first | (go_at_call 33; with_reducible refine (K1.out _ (Below.refl _ _)).mono ?_; rintro e w1 ⟨rfl, hx1⟩; obtain ⟨⟨p0, p1, p2⟩, hy1⟩ := HC.out _ hx1) | (go_at_call 33; with_reducible refine (K2.out _ hx1).mono ?_; rintro e w2 ⟨rfl, hx2⟩; obtain ⟨⟨r0, r1, r2⟩, hy2⟩ := HC.out _ hx2) | (go_at_call 33; with_reducible refine (K3.out _ hx2).mono ?_; rintro e w3 ⟨rfl, hx3⟩; obtain ⟨⟨s0, s1, s2⟩, hy3⟩ := HC.out _ hx3))
            go_ret
            exact ⟨lret_bool (by rw [HR2.out]; rfl), hy3⟩
          · have h0' : ((n2 : Int) == 0) = false := by rw [beq_eq_false_iff_ne]; omega
            have HR3 := Lib.hid (show L6.right x = false from by rw [HR2.out]; simpa using h0)
            clear h0
            go_wp2_with (first | (go_at_call 33; with_reducible refine (K1.out _ (Below.refl _ _)).mono ?_; rintro e w1 ⟨rfl, hx1⟩; obtain ⟨⟨p0, p1, p2⟩, hy1⟩ := HC.out _ hx1) | (go_at_call 33; with_reducible refine (K2.out _ hx1).mono ?_; rintro e w2 ⟨rfl, hx2⟩; obtain ⟨⟨r0, r1, r2⟩, hy2⟩ := HC.out _ hx2) | (go_at_call 33; with_reducible refine (K3.out _ hx2).mono ?_; rintro e w3 ⟨rfl, hx3⟩; obtain ⟨⟨s0, s1, s2⟩, hy3⟩ := HC.out _ hx3))
            go_ret
            exact ⟨lret_bool HR3.out.symm, hy3⟩
        · have hne : (s == ([] : List UInt8)) = false := by simpa using hw
          have HR2 := Lib.hid (show L6.right x = (L6.whole s && (!L6.quoted s && !L6.label s)) from by rw [HR.out, if_neg hw])
          clear HR hw
          generalize L6.whole s = bw at *
          generalize L6.quoted s = bq at *
          generalize L6.label s = bl at *
          cases bw
          · go_wp2_with (first | (go_at_call 33; with_reducible refine (K1.out _ (Below.refl _ _)).mono ?_; rintro e w1 ⟨rfl, hx1⟩; obtain ⟨⟨p0, p1, p2⟩, hy1⟩ := HC.out _ hx1) | (go_at_call 33; with_reducible refine (K2.out _ hx1).mono ?_; rintro e w2 ⟨rfl, hx2⟩; obtain ⟨⟨r0, r1, r2⟩, hy2⟩ := HC.out _ hx2) | (go_at_call 33; with_reducible refine (K3.out _ hx2).mono ?_; rintro e w3 ⟨rfl, hx3⟩; obtain ⟨⟨s0, s1, s2⟩, hy3⟩ := HC.out _ hx3) | (go_at_call 96; refine (KW.out _ hx3).mono ?_; rintro e w4 ⟨rfl, hx4⟩; obtain ⟨⟨t0, t1, t2⟩, hy4⟩ := HC.out _ hx4))
            go_ret
            exact ⟨lret_bool (by rw [HR2.out]; rfl), hy4⟩
          · cases bq
            · go_wp2_with (first | (go_at_call 33; with_reducible refine (K1.out _ (Below.refl _ _)).mono ?_; rintro e w1 ⟨rfl, hx1⟩; obtain ⟨⟨p0, p1, p2⟩, hy1⟩ := HC.out _ hx1) | (go_at_call 33; with_reducible refine (K2.out _ hx1).mono ?_; rintro e w2 ⟨rfl, hx2⟩; obtain ⟨⟨r0, r1, r2⟩, hy2⟩ := HC.out _ hx2) | (go_at_call 33; with_reducible refine (K3.out _ hx2).mono ?_; rintro e w3 ⟨rfl, hx3⟩; obtain ⟨⟨s0, s1, s2⟩, hy3⟩ := HC.out _ hx3) | (go_at_call 96; refine (KW.out _ hx3).mono ?_; rintro e w4 ⟨rfl, hx4⟩; obtain ⟨⟨t0, t1, t2⟩, hy4⟩ := HC.out _ hx4) | (go_at_call 97; refine (KQ.out _ hx4).mono ?_; rintro e w5 ⟨rfl, hx5⟩; obtain ⟨⟨v0, v1, v2⟩, hy5⟩ := HC.out _ hx5) | (go_at_call 94; refine (KL.out _).mono ?_; rintro e w6 ⟨rfl, rfl⟩))
              go_ret
              exact ⟨lret_bool (by rw [HR2.out]; rfl), hy5⟩
            · go_wp2_with (first | (go_at_call 33; with_reducible refine (K1.out _ (Below.refl _ _)).mono ?_; rintro e w1 ⟨rfl, hx1⟩; obtain ⟨⟨p0, p1, p2⟩, hy1⟩ := HC.out _ hx1) | (go_at_call 33; with_reducible refine (K2.out _ hx1).mono ?_; rintro e w2 ⟨rfl, hx2⟩; obtain ⟨⟨r0, r1, r2⟩, hy2⟩ := HC.out _ hx2) | (go_at_call 33; with_reducible refine (K3.out _ hx2).mono ?_; rintro e w3 ⟨rfl, hx3⟩; obtain ⟨⟨s0, s1, s2⟩, hy3⟩ := HC.out _ hx3) | (go_at_call 96; refine (KW.out _ hx3).mono ?_; rintro e w4 ⟨rfl, hx4⟩; obtain ⟨⟨t0, t1, t2⟩, hy4⟩ := HC.out _ hx4) | (go_at_call 97; refine (KQ.out _ hx4).mono ?_; rintro e w5 ⟨rfl, hx5⟩; obtain ⟨⟨v0, v1, v2⟩, hy5⟩ := HC.out _ hx5))
              go_ret
              exact ⟨lret_bool (by rw [HR2.out]; rfl), hy5⟩
      · have HR := Lib.hid (R3.out rfl)
        clear R1 R2 R3 R4
        go_wp2_with (first | (go_at_call 33; with_reducible refine (K1.out _ (Below.refl _ _)).mono ?_; rintro e w1 ⟨rfl, hx1⟩; obtain ⟨⟨p0, p1, p2⟩, hy1⟩ := HC.out _ hx1) | (go_at_call 33; with_reducible refine (K2.out _ hx1).mono ?_; rintro e w2 ⟨rfl, hx2⟩; obtain ⟨⟨r0, r1, r2⟩, hy2⟩ := HC.out _ hx2) | (go_at_call 33; with_reducible refine (K3.out _ hx2).mono ?_; rintro e w3 ⟨rfl, hx3⟩; obtain ⟨⟨s0, s1, s2⟩, hy3⟩ := HC.out _ hx3))
        go_ret
        exact ⟨lret_bool HR.out.symm, hy3⟩
    · have HR := Lib.hid (R2.out rfl)
      clear R1 R2 R3 R4
      go_wp2_with (first | (go_at_call 33; with_reducible refine (K1.out _ (Below.refl _ _)).mono ?_; rintro e w1 ⟨rfl, hx1⟩; obtain ⟨⟨p0, p1, p2⟩, hy1⟩ := HC.out _ hx1) | (go_at_call 33; with_reducible refine (K2.out _ hx1).mono ?_; rintro e w2 ⟨rfl, hx2⟩; obtain ⟨⟨r0, r1, r2⟩, hy2⟩ := HC.out _ hx2))
      go_ret
      exact ⟨lret_bool HR.out.symm, hy2⟩
  · have HR := Lib.hid (R1.out rfl)
    clear R1 R2 R3 R4
    go_wp2_with (go_at_call 33; with_reducible refine (K1.out _ (Below.refl _ _)).mono ?_; rintro e w1 ⟨rfl, hx1⟩; obtain ⟨⟨p0, p1, p2⟩, hy1⟩ := HC.out _ hx1)
    go_ret
    exact ⟨lret_bool HR.out.symm, hy1⟩
end Go.Proofs.YtfafdkbnmfpbmaaDoor

/- A builder of the call's own: WriteString, WriteByte. -/
namespace Go.Proofs.YtfafdkbnmfpbmaaDoor
open Go.RowKit Kit
set_option linter.unusedVariables false
set_option linter.unusedSimpArgs false

/-- A builder in block b that holds the bytes l. -/
def Bd (base b : Nat) (l : List UInt8) (w : World) : Prop := Lib.IsBuilder 112 5 base b (bv l) w
def BdAt (base b : Nat) (l : List UInt8) (w : World) : Prop := Lib.BuilderAt 112 5 base b (.pointer (some ⟨b, 0, none⟩)) (bv l) w
theorem BdAt.bd {base b : Nat} {l : List UInt8} {w : World} (h : BdAt base b l w) : Bd base b l w := .inr h
theorem bd_info : ∃ j, Tryd.prog.info? 112 = some j ∧ j.size = 2 := by
  have h : (Tryd.prog.info? 112).map (·.size) = some 2 := by kernel_rfl
  exact Option.map_eq_some_iff.1 h
theorem Bd.fresh (w : World) : Bd w.heap.size w.heap.size [] (w.alloc (.cells #[.pointer none, .slice none 0 0] 112)) :=
  .inl ⟨Nat.le_refl _, .slice none 0 0, heap_alloc_new w _, World.ownsRow_nil _ _ _ _, by simp [Value.ownBlock]⟩
theorem BdAt.kept {base b : Nat} {l : List UInt8} {w w' : World} (h : BdAt base b l w) (hb : Below w.heap.size w w') : BdAt base b l w' := by
  obtain ⟨h1, v, h2, h3, h4⟩ := h
  exact ⟨h1, v, (hb.block _ (Array.getElem?_eq_some_iff.1 h2).1).trans h2, own_kept h3 hb, h4⟩
theorem Bd.kept {base b : Nat} {l : List UInt8} {w w' : World} (h : Bd base b l w) (hb : Below w.heap.size w w') : Bd base b l w' := by
  rcases h with ⟨h1, v, h2, h3, h4⟩ | h
  · exact .inl ⟨h1, v, (hb.block _ (Array.getElem?_eq_some_iff.1 h2).1).trans h2, own_kept h3 hb, h4⟩
  · exact .inr (BdAt.kept h hb)
set_option maxRecDepth 100000 in
theorem bcheck_used (b : Nat) (w : World) (h0 : w.cell? ⟨b, 0, none⟩ = some (.pointer (some ⟨b, 0, none⟩))) :
    Calls Tryd.prog 98 #[.pointer (some ⟨b, 0, none⟩)] w fun e w' => e = .returned (.tuple #[]) ∧ w' = w := by
  obtain ⟨j, hj, _⟩ := bd_info
  go_enter Tryd.func98, Tryd.ntmps98
  go_wp2
  rw [Lib.run_neq_ptr_same w _ Tryd.underlying110 hj]
  go_wp2
  go_end0
  exact ⟨rfl, rfl⟩
set_option maxRecDepth 100000 in
theorem bcheck_fresh (b : Nat) (w : World) (h0 : w.cell? ⟨b, 0, none⟩ = some (.pointer none)) (hsh : w.shape? b = some (112, 2)) (hfz : w.frozen? ⟨b, 0, none⟩ = false) :
    Calls Tryd.prog 98 #[.pointer (some ⟨b, 0, none⟩)] w fun e w' => e = .returned (.tuple #[]) ∧ w' = w.setCell ⟨b, 0, none⟩ (.pointer (some ⟨b, 0, none⟩)) := by
  obtain ⟨j, hj, hjs⟩ := bd_info
  go_enter Tryd.func98, Tryd.ntmps98
  go_wp2
  rw [Lib.run_to_unsafe w ⟨b, 0, none⟩ Tryd.underlying110 Tryd.underlying176 hj (by rw [hjs]; decide) hsh (Nat.zero_lt_succ 1)]
  simp only [Result.andThen]
  rw [Oper.upon_value]
  go_wp2
  rw [run_callFunc_extern Tryd.func126 (by kernel_rfl) (by kernel_rfl) (by kernel_rfl) (e := Extern.AbiNoEscape.same) (by kernel_rfl)]
  rw [Lib.run_noEscape]
  simp only [Result.andThen]
  rw [Oper.upon_value]
  go_wp2
  rw [Lib.run_from_unsafe w ⟨b, 0, none⟩ Tryd.underlying176 Tryd.underlying110 hj hsh (by kernel_rfl)]
  simp only [Result.andThen]
  rw [Oper.upon_value]
  go_wp2
  go_end0
  exact ⟨rfl, rfl⟩
theorem bcheck_any (base b : Nat) (l : List UInt8) (w : World) (h : Bd base b l w) : Calls Tryd.prog 98 #[.pointer (some ⟨b, 0, none⟩)] w fun e w' => e = .returned (.tuple #[]) ∧ BdAt base b l w' ∧ Below base w w' := by
  rcases h with h | h
  · refine (bcheck_fresh b w h.cell0 h.shape h.frozen0).mono ?_
    rintro e w' ⟨rfl, rfl⟩
    exact ⟨rfl, h.used _, (Below.refl base w).setCell (p := ⟨b, 0, none⟩) h.1 _⟩
  · refine (bcheck_used b w h.cell0).mono ?_
    rintro e w' ⟨rfl, rfl⟩
    exact ⟨rfl, h, Below.refl base _⟩
theorem lbt : ByteTy Tryd.prog 47 5 :=
  ⟨Tryd.underlying47, Tryd.underlying5, by
    have h : (Tryd.prog.info? 5).map (fun i => (i.zero, i.size, i.bytes)) = some (some (.int .u8 0), 1, 1) := by kernel_rfl
    exact info_parts h⟩
/-- What a builder's write leaves. -/
theorem BdAt.wrote {base b : Nat} {l news : List UInt8} {w w2 : World} {v : Value} {A : Option Addr} {n c : Nat} (hB : base ≤ b) (hbk : w.heap[b]? = some (.cells #[.pointer (some ⟨b, 0, none⟩), v] 112 (0, 0))) (hown : OwnB 5 base w v l) (hne : v.ownBlock ≠ some b)
    (ho : OwnB 5 base w2 (.slice A n c) (l ++ news)) (hg : w.grownBy w2 v.ownBlock) :
    w2.cell? ⟨b, 0, none⟩ = some (.pointer (some ⟨b, 0, none⟩)) ∧ w2.cell? ⟨b, 1, none⟩ = some v ∧ w2.frozen? ⟨b, 1, none⟩ = false ∧ Hid (BdAt base b (l ++ news) (w2.setCell ⟨b, 1, none⟩ (.slice A n c))) := by
  have hb2 : w2.heap[b]? = some (.cells #[.pointer (some ⟨b, 0, none⟩), v] 112 (0, 0)) := by
    rw [hg.block b (Array.getElem?_eq_some_iff.1 hbk).1 (fun e => hne e.symm)]; exact hbk
  refine ⟨by rw [Lib.cell_of_heap hb2]; rfl, by rw [Lib.cell_of_heap hb2]; rfl, Lib.frozen_of_heap hb2 1, ?_⟩
  exact Lib.BuilderAt.put (T := 112) (e := 5) hB hb2 (bs' := bv (l ++ news)) (by rw [bv_length]; exact ho) (by decide)
theorem len_two (l s : List UInt8) : (l ++ s).length = l.length + s.length := by simp
theorem len_one (l : List UInt8) (x : UInt8) : (l ++ [x]).length = l.length + 1 := by simp
set_option maxRecDepth 100000 in
set_option maxHeartbeats 1000000 in
theorem bwrite_any (base b : Nat) (l s : List UInt8) (w : World) (h : Bd base b l w) (hlen : l.length + s.length ≤ 140737488355328) (hbw : base ≤ w.heap.size) :
    Calls Tryd.prog 57 #[.pointer (some ⟨b, 0, none⟩), .string ⟨s.toArray⟩] w fun e w' => e = .returned (.tuple #[.int .i64 s.length, .nilIface]) ∧ BdAt base b (l ++ s) w' ∧ Below base w w' := by
  have CC := Lib.hid (bcheck_any base b l w h)
  have HLEN := Lib.hid hlen
  go_enter Tryd.func57, Tryd.ntmps57
  go_wp2_with (go_at_call 98; refine CC.out.mono ?_)
  rintro e w1 ⟨rfl, h1, hb1⟩
  obtain ⟨hB, v, hbk, hown0, hne⟩ := h1
  rw [bv_length] at hown0
  have hown : OwnB 5 base w1 v l := hown0
  obtain ⟨A, cap, rfl⟩ := hown.len rfl
  have c0 : w1.cell? ⟨b, 0, none⟩ = some (.pointer (some ⟨b, 0, none⟩)) := by rw [Lib.cell_of_heap hbk]; rfl
  have c1 : w1.cell? ⟨b, 1, none⟩ = some (.slice A l.length cap) := by rw [Lib.cell_of_heap hbk]; rfl
  have HZ := Lib.hid (show base ≤ w1.heap.size from Nat.le_trans hbw hb1.size)
  have HOW := Lib.hid hown
  have HSR := Lib.hid (src_of_string (P := Tryd.prog) Tryd.underlying9 w1 ⟨s.toArray⟩)
  have HBK := Lib.hid hbk
  have HNE := Lib.hid hne
  have HB1 := Lib.hid hb1
  clear hown0 hown hbk hne hb1 h
  go_wp2_with (at_builtin; refine wpList_appendB rfl _ _ _ _ rfl lbt base _ rfl l HOW.out _ rfl s HSR.out HLEN.out HZ.out ?_; intro v' w2 ho hbb hg; obtain ⟨A2, c2, rfl⟩ := ho.len (len_two l s); obtain ⟨d0, d1, f1, HW⟩ := BdAt.wrote hB HBK.out HOW.out HNE.out ho hg; clear ho hg)
  go_ret2
  exact ⟨rfl, HW.out, (HB1.out.trans hbb).setCell (p := ⟨b, 1, none⟩) hB _⟩
set_option maxRecDepth 100000 in
set_option maxHeartbeats 1000000 in
theorem bbyte_any (base b : Nat) (l : List UInt8) (x : UInt8) (w : World) (h : Bd base b l w) (hlen : l.length + 1 ≤ 140737488355328) (hbw : base ≤ w.heap.size) :
    Calls Tryd.prog 59 #[.pointer (some ⟨b, 0, none⟩), .int .u8 x.toNat] w fun e w' => e = .returned .nilIface ∧ BdAt base b (l ++ [x]) w' ∧ Below base w w' := by
  have CC := Lib.hid (bcheck_any base b l w h)
  have HLEN := Lib.hid hlen
  go_enter Tryd.func59, Tryd.ntmps59
  go_wp2_with (go_at_call 98; refine CC.out.mono ?_)
  rintro e w1 ⟨rfl, h1, hb1⟩
  obtain ⟨hB, v, hbk, hown0, hne⟩ := h1
  rw [bv_length] at hown0
  have hown : OwnB 5 base w1 v l := hown0
  obtain ⟨A, cap, rfl⟩ := hown.len rfl
  have c0 : w1.cell? ⟨b, 0, none⟩ = some (.pointer (some ⟨b, 0, none⟩)) := by rw [Lib.cell_of_heap hbk]; rfl
  have c1 : w1.cell? ⟨b, 1, none⟩ = some (.slice A l.length cap) := by rw [Lib.cell_of_heap hbk]; rfl
  have hal : Below w1.heap.size w1 (w1.alloc (.cells #[.int .u8 x.toNat] 5)) := (Below.refl _ _).alloc (Nat.le_refl _) _
  have HZ := Lib.hid (show base ≤ (w1.alloc (.cells #[.int .u8 x.toNat] 5)).heap.size from Nat.le_trans (Nat.le_trans hbw hb1.size) hal.size)
  have HOW := Lib.hid (hown.kept hal)
  have HSR := Lib.hid (src_of_built (P := Tryd.prog) lbt w1 5 #[.int .u8 x.toNat] [x] 1 rfl)
  have HBK := Lib.hid (show (w1.alloc (.cells #[.int .u8 x.toNat] 5)).heap[b]? = some (.cells #[.pointer (some ⟨b, 0, none⟩), .slice A l.length cap] 112 (0, 0)) from (hal.block _ (Array.getElem?_eq_some_iff.1 hbk).1).trans hbk)
  have HNE := Lib.hid hne
  have HB1 := Lib.hid (hb1.trans (hal.mono (Nat.le_trans hbw hb1.size)))
  clear hown0 hown hbk hne hb1 h hal
  go_wp2_with (at_builtin; refine wpList_appendB rfl _ _ _ _ rfl lbt base _ rfl l HOW.out _ rfl [x] HSR.out HLEN.out HZ.out ?_; intro v' w2 ho hbb hg; obtain ⟨A2, c2, rfl⟩ := ho.len (len_one l x); obtain ⟨d0, d1, f1, HW⟩ := BdAt.wrote hB HBK.out HOW.out HNE.out ho hg; clear ho hg)
  go_ret
  exact ⟨rfl, HW.out, (HB1.out.trans hbb).setCell (p := ⟨b, 1, none⟩) hB _⟩
end Go.Proofs.YtfafdkbnmfpbmaaDoor
