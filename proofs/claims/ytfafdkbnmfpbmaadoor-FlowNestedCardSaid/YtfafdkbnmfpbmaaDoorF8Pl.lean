/- Flow, the program's side: Plain's label check, and what Plain keeps in memory. -/
import Derived.Test.YtfafdkbnmfpbmaaDoorF8Own7
namespace Go.Proofs.YtfafdkbnmfpbmaaDoor
open Go.RowKit Kit
set_option linter.unusedVariables false
set_option linter.unusedSimpArgs false

theorem F8.made_prefix (s : List UInt8) : Lib.hasPrefix s [64] = F8.made s := by
  unfold F8.made
  cases s with
  | nil => rfl
  | cons c t =>
    unfold Lib.hasPrefix
    simp only [List.isPrefixOf, Bool.and_true, List.headD_cons]
    rw [Bool.eq_iff_iff, beq_iff_eq, beq_iff_eq]
    exact ⟨fun h => h.symm, fun h => h.symm⟩
theorem fmade_any (s : List UInt8) (w : World) (hs : s.length ≤ 1000000000) : Calls Tryd.prog 34 #[.string ⟨s.toArray⟩] w fun e w' => e = .returned (.bool (F8.made s)) ∧ Below w.heap.size w w' := by
  have CP := Lib.hid (fun W => Tryd.strings_HasPrefix ⟨s.toArray⟩ ⟨#[64]⟩ W)
  have HP := Lib.hid (F8.made_prefix s)
  go_enter Tryd.func34, Tryd.ntmps34
  go_wp2_with (go_at_call 35; refine (CP.out _).mono ?_; rintro e w1 ⟨rfl, rfl⟩)
  go_ret
  exact ⟨lret_bool HP.out, Below.refl _ _⟩
set_option maxRecDepth 20000 in
set_option maxHeartbeats 1000000 in
theorem findex_made (v : Value) (l : List (List UInt8)) (w : World) (h : RdS w v l) (hl : l.length ≤ 1000000000) (hs : ∀ x ∈ l, x.length ≤ 1000000000) :
    Calls Tryd.prog 62 #[v, .func (.func 34) #[] #[]] w fun e w' => e = .returned (.int .i64 (L6.idx (F8.made) l)) ∧ Below w.heap.size w w' := by
  have HH := Lib.hid h
  have HL := Lib.hid hl
  have HS := Lib.hid hs
  have HY := Lib.hid (fun (k : Nat) hk h hno => L6.idx_yes (p := F8.made) (l := l) (k := k) hk h hno)
  have HNO := Lib.hid (fun hno => L6.idx_no (p := F8.made) (l := l) hno)
  obtain ⟨A, c, rfl⟩ := h.form
  clear h hl hs
  go_enter Tryd.func62, Tryd.ntmps62
  go_wp2_with fail
  go_loopw [8] (fun i wr => ∃ k : Nat, k ≤ l.length ∧ i = .int .i64 (k : Int) ∧ (∀ j, j < k → (F8.made) (l.getD j []) = false) ∧ Below w.heap.size w wr) (fun i _ => l.length - (intOf i).toNat)
  case atStart => exact ⟨0, Nat.zero_le _, rfl, fun j hj => absurd hj (by omega), Below.refl _ _⟩
  case round =>
    obtain ⟨k, hk, rfl, hno, hbr⟩ := hrel
    have HN := Lib.hid hno
    have HBR := Lib.hid hbr
    clear hno hbr
    by_cases hlt : k < l.length
    · have hlt' : (k : Int) < (l.length : Int) := by omega
      have hw1 : IntKind.i64.wrap ((k : Int) + 1) = (k : Int) + 1 := by have := HL.out; rw [IntKind.wrap_i64]; omega
      obtain ⟨g, off, c', e, hg, hcell⟩ := HH.out.at hlt
      injection e with e1 e2 e3
      subst e1 e3
      have hcr : wr.cell? ⟨g, off + k, none⟩ = some (.string ⟨(l.getD k []).toArray⟩) := (HBR.out.cell (p := ⟨g, off + k, none⟩) hg).trans hcell
      have hxl : (l.getD k []).length ≤ 1000000000 := HS.out _ (by rw [List.getD, List.getElem?_eq_getElem hlt]; exact List.getElem_mem hlt)
      have HLT := Lib.hid hlt
      have HYK := Lib.hid (fun h => HY.out k HLT.out h HN.out)
      have HNK := Lib.hid (fun (h : (F8.made) (l.getD k []) = false) j (hj : j < k + 1) => show (F8.made) (l.getD j []) = false from by
        by_cases e : j = k
        · rw [e]; exact h
        · exact HN.out j (by omega))
      clear hcell hlt
      generalize l.getD k [] = x at *
      have CB := Lib.hid (fmade_any x wr hxl)
      cases hb : (F8.made) x
      · have CF := Lib.hid (CB.out.mono (R' := fun e w' => e = .returned (.bool false) ∧ Below wr.heap.size wr w') (fun e w' hh => ⟨hh.1.trans (lret_bool hb), hh.2⟩))
        have HK := Lib.hid (HNK.out hb)
        clear hb CB HNK HYK
        go_wp2_with (go_at_call 34; refine CF.out.mono ?_; rintro e w1 ⟨rfl, hb1⟩)
        go_roundw
        case rel => exact ⟨k + 1, HLT.out, by simp, HK.out, HBR.out.trans (hb1.mono HBR.out.size)⟩
        case measure => simp [intOf]; have := HLT.out; omega
      · have CF := Lib.hid (CB.out.mono (R' := fun e w' => e = .returned (.bool true) ∧ Below wr.heap.size wr w') (fun e w' hh => ⟨hh.1.trans (lret_bool hb), hh.2⟩))
        have HK := Lib.hid (HYK.out hb)
        clear hb CB HNK HYK
        go_wp2_with (go_at_call 34; refine CF.out.mono ?_; rintro e w1 ⟨rfl, hb1⟩)
        go_ret
        exact ⟨lret_int HK.out.symm, HBR.out.trans (hb1.mono HBR.out.size)⟩
    · obtain rfl : k = l.length := by omega
      have HR := Lib.hid (HNO.out HN.out)
      go_wp2_with fail
      go_ret
      exact ⟨lret_int HR.out.symm, HBR.out⟩
theorem fcontains_made (v : Value) (l : List (List UInt8)) (w : World) (h : RdS w v l) (hl : l.length ≤ 1000000000) (hs : ∀ x ∈ l, x.length ≤ 1000000000) :
    Calls Tryd.prog 33 #[v, .func (.func 34) #[] #[]] w fun e w' => e = .returned (.bool (l.any (F8.made))) ∧ Below w.heap.size w w' := by
  have CI := Lib.hid (findex_made v l w h hl hs)
  have HA := Lib.hid (L6.idx_any (F8.made) l)
  obtain ⟨A, c, rfl⟩ := h.form
  go_enter Tryd.func33, Tryd.ntmps33
  go_wp2_with (go_at_call 62; refine CI.out.mono ?_; rintro e w1 ⟨rfl, hb1⟩)
  go_ret
  exact ⟨lret_bool HA.out, hb1⟩
theorem own_but_ne {base g : Nat} {w w' : World} {e : TypeId} {v : Value} {size n : Nat} {xs : List Value} (h : w.ownsRow base e size v n xs) (hne : v.ownBlock ≠ some g) (hb : But g w w') : w'.ownsRow base e size v n xs := by
  obtain ⟨h1, h2⟩ := h
  refine ⟨h1, ?_⟩
  rcases h2 with h2 | ⟨g', cap, cur, rfl, hb', hh, rest⟩
  · exact .inl h2
  · exact .inr ⟨g', cap, cur, rfl, hb', (hb.block (Array.getElem?_eq_some_iff.1 hh).1 (fun e => hne (by simp [Value.ownBlock, e]))).trans hh, rest⟩
/-- A block that is not the maker's turns. -/
theorem F8.Mk.but {own : Bool} {TM TL TO : TypeId} {B : Nat} {W W' : World} {gm H gx : Nat} {S : F8.St} {T : TypeId} {cx : Array Value} (h : F8.Mk own TM TL TO B W gm H S) (hb : But gx W W') (hf : F8.Free gm W gx) (hk : Bk W gx T cx) (hT : T ≠ 9) (hB : B ≤ gx) :
    F8.Mk own TM TL TO B W' gm H S ∧ Below B W W' ∧ (∀ {base : Nat} {v : Value} {l : List (List UInt8)}, OwnZ base W v l → OwnZ base W' v l) := by
  obtain ⟨vo, vp, cs, h1, h2, h3, h4, h5⟩ := h.obj
  have hbl : Below B W W' := hb.below hB h.size
  have hz : ∀ {base : Nat} {v : Value} {l : List (List UInt8)}, OwnZ base W v l → OwnZ base W' v l := by
    intro base v l hz
    rcases hz with hz | hz
    · exact .inl (own_but hz hk hT hb)
    · exact .inr hz
  refine ⟨⟨Nat.le_trans h.size hb.size, h.ge, Nat.le_trans h.le hb.size, ⟨vo, vp, cs, hb.bk h1 (Ne.symm hf.1), own_but_ne h2 (hf.2.1 vo (h1.cell 0)) hb, h3.map fun v l hz0 => ?_, own_but_ne h4 (hf.2.2 vp (h1.cell 1)) hb, h5⟩⟩, hbl, hz⟩
  rcases hz0 with hz0 | ⟨e1, e2, e3⟩
  · exact .inl (hz hz0)
  · exact .inr ⟨e1, Rd.keep e2 hb.size fun g off c e hn hg => hbl.block g (e3 g off _ c e hn), e3⟩
end Go.Proofs.YtfafdkbnmfpbmaaDoor
