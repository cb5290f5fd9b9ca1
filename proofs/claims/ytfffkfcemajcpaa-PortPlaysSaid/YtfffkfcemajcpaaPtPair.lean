/- The program's port and the document's, side by side; they share nothing. -/
import Derived.Test.YtfffkfcemajcpaaPtRefC
namespace Go.Proofs.Ytfffkfcemajcpaa
open Go.RowKit Kit
set_option linter.unusedVariables false
set_option linter.unusedSimpArgs false

/-- The document's port, where nothing of its own has changed. -/
theorem RefP.same {w w' : World} {base gr : Nat} {ahead put : List UInt8} {h : Bool} {code : Nat} (H : RefP w base gr ahead put h code) (hs : w.heap.size ≤ w'.heap.size)
    (hk : ∀ k, k < w.heap.size → rmine w gr k ∨ RAhead w gr k → w'.heap[k]? = w.heap[k]?) : RefP w' base gr ahead put h code := by
  obtain ⟨va, vp, hb, hr, ho, hg⟩ := H.obj
  refine ⟨⟨va, vp, (hk gr hb.lt (.inl (.inl rfl))).trans hb, ?_, ?_, fun g off n c e => ?_⟩, H.bp, H.few, H.len, H.small⟩
  · rcases hr with h | ⟨g, off, cap, rfl, hlt, hlc, hcm, hc⟩
    · exact .inl h
    · exact .inr ⟨g, off, cap, rfl, Nat.lt_of_lt_of_le hlt hs, hlc, hcm, fun j hj => (World.cell?_of_block (a := ⟨g, off + j, none⟩) (hk g hlt (.inr ⟨_, _, _, _, _, _, _, hb, rfl⟩))).trans (hc j hj)⟩
  · refine ⟨ho.1, ?_⟩
    rcases ho.2 with he | ⟨g', cap', cur, e1, hg', hh, hr'⟩
    · exact .inl he
    · exact .inr ⟨g', cap', cur, e1, hg', (hk g' (Array.getElem?_eq_some_iff.1 hh).1 (.inl (.inr ⟨_, _, _, _, hb, by rw [e1]; rfl⟩))).trans hh, hr'⟩
  · have m := hg g off n c e
    exact ⟨m.1, m.2.1, m.2.2.1, Nat.lt_of_lt_of_le m.2.2.2 hs⟩
theorem OwnP.same {w w' : World} {base gp gc : Nat} {ahead put : List UInt8} {h : Bool} {code : Nat} (H : OwnP w base gp gc ahead put h code)
    (hk : ∀ k, k < w.heap.size → mine w gp gc k → w'.heap[k]? = w.heap[k]?) : OwnP w' base gp gc ahead put h code := by
  obtain ⟨v, hb, ho⟩ := H.obj
  obtain ⟨cap, s, r, hc⟩ := H.ch
  refine ⟨⟨v, (hk gp hb.lt (.inl rfl)).trans hb, ho.1, ?_⟩, ⟨cap, s, r, (hk gc (Array.getElem?_eq_some_iff.1 hc).1 (.inr (.inl rfl))).trans hc⟩, H.bp, H.bc, H.few, H.small⟩
  rcases ho.2 with he | ⟨g', cap', cur, e1, hg', hh, hr'⟩
  · exact .inl he
  · exact .inr ⟨g', cap', cur, e1, hg', (hk g' (Array.getElem?_eq_some_iff.1 hh).1 (.inr (.inr ⟨_, _, _, _, hb, by rw [e1]; rfl⟩))).trans hh, hr'⟩
theorem RAhead.lt {w : World} {base gr k : Nat} {ahead put : List UInt8} {h : Bool} {code : Nat} (H : RefP w base gr ahead put h code) (hk : RAhead w gr k) : base ≤ k ∧ k < w.heap.size := by
  obtain ⟨va, vp, hb, hr, ho, hg⟩ := H.obj
  obtain ⟨x, v, y, z, off, n, c, h1, e⟩ := hk
  have := (h1.uniq hb).2
  simp at this
  obtain ⟨rfl, _⟩ := this
  have m := hg _ _ _ _ e
  exact ⟨m.1, m.2.2.2⟩
theorem rmine.lt {w : World} {base gr k : Nat} {ahead put : List UInt8} {h : Bool} {code : Nat} (H : RefP w base gr ahead put h code) (hk : rmine w gr k) : base ≤ k ∧ k < w.heap.size := by
  obtain ⟨va, vp, hb, hr, ho, hg⟩ := H.obj
  rcases hk with rfl | ⟨x, v, y, z, h1, e⟩
  · exact ⟨H.bp, hb.lt⟩
  · have := (h1.uniq hb).2
    simp at this
    obtain ⟨_, rfl, _⟩ := this
    exact ho.lt k e
theorem rmine.same {w w' : World} {gr k : Nat} (h : rmine w' gr k) (e : w'.heap[gr]? = w.heap[gr]?) : rmine w gr k := by
  rcases h with h | ⟨x, v, y, z, h1, h2⟩
  · exact .inl h
  · exact .inr ⟨x, v, y, z, e.symm.trans h1, h2⟩
theorem RAhead.same {w w' : World} {gr k : Nat} (h : RAhead w' gr k) (e : w'.heap[gr]? = w.heap[gr]?) : RAhead w gr k := by
  obtain ⟨x, v, y, z, off, n, c, h1, h2⟩ := h
  exact ⟨x, v, y, z, off, n, c, e.symm.trans h1, h2⟩
theorem RefP.lt {w : World} {base gr : Nat} {ahead put : List UInt8} {h : Bool} {code : Nat} (H : RefP w base gr ahead put h code) : gr < w.heap.size := (rmine.lt H (.inl rfl)).2

/-- A program's port and a document's that share nothing. -/
structure Duo (w : World) (base gp gc gr : Nat) (a p : List UInt8) (h : Bool) (c : Nat) (a' p' : List UInt8) (h' : Bool) (c' : Nat) : Prop where
  own : OwnP w base gp gc a p h c
  ref : RefP w base gr a' p' h' c'
  apart : ∀ k, mine w gp gc k → ¬ rmine w gr k
  off : ∀ k, mine w gp gc k → ¬ RAhead w gr k
section
variable {w w' : World} {base gp gc gr : Nat} {a p a' p' a2 p2 : List UInt8} {h h' h2 : Bool} {c c' c2 : Nat}
/-- A step of the program's port. -/
theorem Duo.step (H : Duo w base gp gc gr a p h c a' p' h' c') (ho : OwnP w' base gp gc a2 p2 h2 c2) (hs : PStep w w' gp gc) : Duo w' base gp gc gr a2 p2 h2 c2 a' p' h' c' := by
  have hr := H.ref.same hs.only.size (fun k hk hm => hs.only.block k hk (fun hmm => hm.elim (H.apart k hmm) (H.off k hmm)))
  have hg : w'.heap[gr]? = w.heap[gr]? := hs.only.block gr H.ref.lt (fun hm => H.apart gr hm (.inl rfl))
  refine ⟨ho, hr, fun k hm hk => ?_, fun k hm hk => ?_⟩
  · have hk' := hk.same hg
    rcases hs.grow k hm with h1 | h1
    · exact H.apart k h1 hk'
    · have := (rmine.lt H.ref hk').2; omega
  · have hk' := hk.same hg
    rcases hs.grow k hm with h1 | h1
    · exact H.off k h1 hk'
    · have := (RAhead.lt H.ref hk').2; omega
/-- A step of the document's. -/
theorem Duo.rstep (H : Duo w base gp gc gr a p h c a' p' h' c') (hr : RefP w' base gr a2 p2 h2 c2) (hs : RStep w w' gr) : Duo w' base gp gc gr a p h c a2 p2 h2 c2 := by
  obtain ⟨ho, hm⟩ := H.own.other hs.only (fun k hk => H.apart k hk)
  refine ⟨ho, hr, fun k hk hk' => ?_, fun k hk hk' => ?_⟩
  · have h1 := hm k hk
    rcases hs.new k hk' with h2 | h2
    · exact H.apart k h1 h2
    · have := (H.own.lt k h1).2; omega
  · exact H.off k (hm k hk) (hs.ahead k hk')
/-- What lies below the ports, and what is new, may change. -/
theorem Duo.other {S : Nat → Prop} (H : Duo w base gp gc gr a p h c a' p' h' c') (hb : Only S w w') (hS : ∀ k, base ≤ k → k < w.heap.size → ¬ S k) : Duo w' base gp gc gr a p h c a' p' h' c' := by
  obtain ⟨ho, hm⟩ := H.own.other hb (fun k hk => hS k (H.own.lt k hk).1 (H.own.lt k hk).2)
  have hg : w'.heap[gr]? = w.heap[gr]? := hb.block gr H.ref.lt (hS gr H.ref.bp H.ref.lt)
  refine ⟨ho, H.ref.same hb.size (fun k hk hm => hb.block k hk ?_), fun k hk hk' => H.apart k (hm k hk) (hk'.same hg), fun k hk hk' => H.off k (hm k hk) (hk'.same hg)⟩
  rcases hm with hm | hm
  · exact hS k (rmine.lt H.ref hm).1 hk
  · exact hS k (RAhead.lt H.ref hm).1 hk
theorem Duo.kept (H : Duo w base gp gc gr a p h c a' p' h' c') (hb : Below w.heap.size w w') : Duo w' base gp gc gr a p h c a' p' h' c' :=
  H.other (Only.of_below (S := fun _ => False) hb) (fun _ _ _ h => h)
theorem OwnP.rebase {base' : Nat} (H : OwnP w base gp gc a p h c) (hb : base' ≤ base) : OwnP w base' gp gc a p h c := by
  obtain ⟨v, h1, h2⟩ := H.obj
  exact ⟨⟨v, h1, h2.rebase hb⟩, H.ch, Nat.le_trans hb H.bp, Nat.le_trans hb H.bc, H.few, H.small⟩
theorem RefP.rebase {base' : Nat} (H : RefP w base gr a p h c) (hb : base' ≤ base) : RefP w base' gr a p h c := by
  obtain ⟨va, vp, h1, h2, h3, h4⟩ := H.obj
  exact ⟨⟨va, vp, h1, h2, h3.rebase hb, fun g off n c e => ⟨Nat.le_trans hb (h4 g off n c e).1, (h4 g off n c e).2⟩⟩, Nat.le_trans hb H.bp, H.few, H.len, H.small⟩
/-- Just made. -/
theorem Duo.made (ho : OwnP w base gp gc a p h c) (hr : RefP w' w.heap.size gr a' p' h' c') (hb : Below w.heap.size w w') (hbase : base ≤ w.heap.size) : Duo w' base gp gc gr a p h c a' p' h' c' := by
  obtain ⟨ho', hm⟩ := ho.other (Only.of_below (S := fun _ => False) hb) (fun _ _ h => h)
  refine ⟨ho', hr.rebase hbase, fun k hk hk' => ?_, fun k hk hk' => ?_⟩
  · have := (ho.lt k (hm k hk)).2; have := (rmine.lt hr hk').1; omega
  · have := (ho.lt k (hm k hk)).2; have := (RAhead.lt hr hk').1; omega
end
end Go.Proofs.Ytfffkfcemajcpaa
