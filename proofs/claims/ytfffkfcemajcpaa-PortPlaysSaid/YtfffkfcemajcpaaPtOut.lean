/- Walks: Out, Halt, Output of a port. -/
import Derived.Test.YtfffkfcemajcpaaPtOwn
namespace Go.Proofs.Ytfffkfcemajcpaa
open Go.RowKit Kit
set_option linter.unusedVariables false
set_option linter.unusedSimpArgs false

/-- Only blocks of S, and what is new, have changed. -/
structure Only (S : Nat → Prop) (w w' : World) : Prop where
  os : w'.os = w.os
  tape : w'.tape = w.tape
  output : w'.output = w.output
  size : w.heap.size ≤ w'.heap.size
  block : ∀ k, k < w.heap.size → ¬ S k → w'.heap[k]? = w.heap[k]?
theorem Only.refl (S : Nat → Prop) (w : World) : Only S w w := ⟨rfl, rfl, rfl, Nat.le_refl _, fun _ _ _ => rfl⟩
theorem Only.of_below {S : Nat → Prop} {w w' : World} (h : Below w.heap.size w w') : Only S w w' := ⟨h.os, h.tape, h.output, h.size, fun k hk _ => h.block k hk⟩
theorem Only.trans {S S' T : Nat → Prop} {a b c : World} (h : Only S a b) (h' : Only S' b c) (h1 : ∀ k, S k → T k) (h2 : ∀ k, k < a.heap.size → S' k → T k) : Only T a c :=
  ⟨h'.os.trans h.os, h'.tape.trans h.tape, h'.output.trans h.output, Nat.le_trans h.size h'.size, fun k hk hn =>
    (h'.block k (Nat.lt_of_lt_of_le hk h.size) (fun hs => hn (h2 k hk hs))).trans (h.block k hk (fun hs => hn (h1 k hs)))⟩
theorem Only.below {S : Nat → Prop} {B : Nat} {w w' : World} (h : Only S w w') (hB : B ≤ w.heap.size) (hS : ∀ k, S k → B ≤ k) : Below B w w' :=
  ⟨h.os, h.tape, h.output, h.size, fun k hk => h.block k (by omega) (fun hs => by have := hS k hs; omega)⟩
theorem Only.bk {S : Nat → Prop} {w w' : World} {g : Nat} {t : TypeId} {cs : Array Value} (h : Only S w w') (hb : Bk w g t cs) (hn : ¬ S g) : Bk w' g t cs := (h.block g hb.lt hn).trans hb

/-- The block of what was put out. -/
def OutIn (w : World) (gp k : Nat) : Prop := ∃ x v y z, Bk w gp 56 #[x, v, y, z] ∧ v.ownBlock = some k
/-- The blocks of a port. -/
def mine (w : World) (gp gc k : Nat) : Prop := k = gp ∨ k = gc ∨ OutIn w gp k
theorem OutIn.same {w w' : World} {gp k : Nat} (h : OutIn w' gp k) (e : w'.heap[gp]? = w.heap[gp]?) : OutIn w gp k := by
  obtain ⟨x, v, y, z, h1, h2⟩ := h; exact ⟨x, v, y, z, e.symm.trans h1, h2⟩
theorem OwnP.out_ge {w : World} {base gp gc : Nat} {ahead put : List UInt8} {h : Bool} {code k : Nat} (H : OwnP w base gp gc ahead put h code) (hk : OutIn w gp k) : base ≤ k ∧ k < w.heap.size ∧ ∃ cs, Bk w k 5 cs := by
  obtain ⟨x, v, y, z, h1, h2⟩ := hk
  obtain ⟨v', h3, h4⟩ := H.obj
  have := (h1.uniq h3).2
  simp at this
  obtain ⟨_, rfl, _⟩ := this
  rcases h4.2 with ⟨rfl, _⟩ | ⟨g, cap, cur, rfl, hb, hh, _⟩
  · simp [Value.ownBlock] at h2
  · simp [Value.ownBlock] at h2
    subst h2
    exact ⟨hb, (Array.getElem?_eq_some_iff.1 hh).1, _, hh⟩
theorem OwnP.lt {w : World} {base gp gc : Nat} {ahead put : List UInt8} {h : Bool} {code : Nat} (H : OwnP w base gp gc ahead put h code) : ∀ k, mine w gp gc k → base ≤ k ∧ k < w.heap.size := by
  rintro k (rfl | rfl | hk)
  · obtain ⟨_, hb, _⟩ := H.obj; exact ⟨H.bp, hb.lt⟩
  · obtain ⟨cap, s, r, hc⟩ := H.ch; exact ⟨H.bc, (Array.getElem?_eq_some_iff.1 hc).1⟩
  · exact ⟨(H.out_ge hk).1, (H.out_ge hk).2.1⟩
theorem OwnP.gc_ne {w : World} {base gp gc : Nat} {ahead put : List UInt8} {h : Bool} {code : Nat} (H : OwnP w base gp gc ahead put h code) : gc ≠ gp ∧ ¬ OutIn w gp gc ∧ ¬ OutIn w gp gp := by
  obtain ⟨cap, s, r, hc⟩ := H.ch
  obtain ⟨v, hb, _⟩ := H.obj
  refine ⟨?_, fun hk => ?_, fun hk => ?_⟩
  · rintro rfl
    unfold Bk at hb
    rw [hb] at hc
    cases hc
  · obtain ⟨_, _, cs, hcs⟩ := H.out_ge hk
    unfold Bk at hcs
    rw [hcs] at hc
    cases hc
  · obtain ⟨_, _, cs, hcs⟩ := H.out_ge hk
    have := (hb.uniq hcs).1
    revert this; decide

/-- What an act does to memory: only the port's blocks; and its new blocks are new. -/
structure PStep (w w' : World) (gp gc : Nat) : Prop where
  only : Only (mine w gp gc) w w'
  grow : ∀ k, mine w' gp gc k → mine w gp gc k ∨ w.heap.size ≤ k

theorem OwnP.kept {w w' : World} {base gp gc : Nat} {ahead put : List UInt8} {h : Bool} {code : Nat} (H : OwnP w base gp gc ahead put h code) (hb : Below w.heap.size w w') : OwnP w' base gp gc ahead put h code := by
  obtain ⟨v, h1, h2⟩ := H.obj
  obtain ⟨cap, s, r, hc⟩ := H.ch
  exact ⟨⟨v, h1.kept hb, h2.kept hb⟩, ⟨cap, s, r, (hb.block gc (Array.getElem?_eq_some_iff.1 hc).1).trans hc⟩, H.bp, H.bc, H.few, H.small⟩
/-- Others' blocks were written. -/
theorem OwnP.other {S : Nat → Prop} {w w' : World} {base gp gc : Nat} {ahead put : List UInt8} {h : Bool} {code : Nat} (H : OwnP w base gp gc ahead put h code) (hb : Only S w w') (hS : ∀ k, mine w gp gc k → ¬ S k) : OwnP w' base gp gc ahead put h code ∧ ∀ k, mine w' gp gc k → mine w gp gc k := by
  obtain ⟨v, h1, h2⟩ := H.obj
  obtain ⟨cap, s, r, hc⟩ := H.ch
  have e1 := hb.block gp h1.lt (hS gp (.inl rfl))
  refine ⟨⟨⟨v, e1.trans h1, ?_⟩, ⟨cap, s, r, (hb.block gc (Array.getElem?_eq_some_iff.1 hc).1 (hS gc (.inr (.inl rfl)))).trans hc⟩, H.bp, H.bc, H.few, H.small⟩, ?_⟩
  · obtain ⟨k1, k2⟩ := h2
    refine ⟨k1, ?_⟩
    rcases k2 with k2 | ⟨g, cap, cur, rfl, hb', hh, rest⟩
    · exact .inl k2
    · exact .inr ⟨g, cap, cur, rfl, hb', (hb.block g (Array.getElem?_eq_some_iff.1 hh).1 (hS g (.inr (.inr ⟨_, _, _, _, h1, rfl⟩)))).trans hh, rest⟩
  · rintro k (rfl | rfl | hk)
    · exact .inl rfl
    · exact .inr (.inl rfl)
    · exact .inr (.inr (hk.same e1))

theorem heap_setChan_ne (w : World) (c k cap : Nat) (buf : Array Value) (cl : Bool) (s r : Nat) (tm : Bool) (h : k ≠ c) : (w.setChan c cap buf cl s r tm).heap[k]? = w.heap[k]? := by
  simp only [World.setChan]; rw [Array.getElem?_setIfInBounds_ne (by omega)]

/-- A byte comes in. -/
theorem OwnP.took {w : World} {base gp gc cap s r : Nat} {c : UInt8} {ahead put : List UInt8} {h : Bool} {code : Nat} (H : OwnP w base gp gc (c :: ahead) put h code) (s' r' : Nat) :
    OwnP (w.setChan gc cap (bv ahead).toArray false s' r' false) base gp gc ahead put h code ∧ PStep w (w.setChan gc cap (bv ahead).toArray false s' r' false) gp gc := by
  obtain ⟨v, h1, h2⟩ := H.obj
  obtain ⟨cap', s0, r0, hc⟩ := H.ch
  obtain ⟨n1, n2, n3⟩ := H.gc_ne
  have e1 := heap_setChan_ne w gc gp cap (bv ahead).toArray false s' r' false n1.symm
  have hlt := (Array.getElem?_eq_some_iff.1 hc).1
  refine ⟨⟨⟨v, e1.trans h1, ?_⟩, ⟨cap, s', r', Conc.heap_setChan w gc cap _ _ _ _ _ hlt⟩, H.bp, H.bc, H.few, H.small⟩, ⟨⟨rfl, rfl, rfl, by simp [World.setChan], fun k _ hn => heap_setChan_ne w gc k cap _ _ _ _ _ (fun e => hn (.inr (.inl e)))⟩, ?_⟩⟩
  · obtain ⟨k1, k2⟩ := h2
    refine ⟨k1, ?_⟩
    rcases k2 with k2 | ⟨g, cap2, cur, rfl, hb', hh, rest⟩
    · exact .inl k2
    · refine .inr ⟨g, cap2, cur, rfl, hb', (heap_setChan_ne w gc g cap _ _ _ _ _ ?_).trans hh, rest⟩
      rintro rfl
      exact n2 ⟨_, _, _, _, h1, rfl⟩
  · rintro k (rfl | rfl | hk)
    · exact .inl (.inl rfl)
    · exact .inl (.inr (.inl rfl))
    · exact .inl (.inr (.inr (hk.same e1)))

theorem output_port (w : World) (base gp gc : Nat) (ahead put : List UInt8) (h : Bool) (code : Nat) (H : OwnP w base gp gc ahead put h code)
    (hcl : ∀ v, OwnB 5 base w v put → Calls Try.prog 39 #[v] w fun e w' => ∃ v', e = .returned v' ∧ OwnB 5 w.heap.size w' v' put ∧ Below w.heap.size w w') :
    Calls Try.prog 16 #[.pointer (some ⟨gp, 0, none⟩)] w fun e w' => ∃ v', e = .returned v' ∧ OwnB 5 w.heap.size w' v' put ∧ Below w.heap.size w w' := by
  obtain ⟨v, hb, ho⟩ := H.obj
  have c0 : w.cell? ⟨gp, 0, none⟩ = some (.chan (some gc)) := hb.cell 0
  obtain ⟨a, c, rfl⟩ := ho.len rfl
  have c1 : w.cell? ⟨gp, 1, none⟩ = some (.slice a put.length c) := hb.cell 1
  have HC := Lib.hid (hcl _ ho)
  clear H hb ho hcl
  generalize put.length = n at *
  go_enter Try.func16, Try.ntmps16
  go_wp2_with (first | (go_at_call 38; refine (none_port _ gp gc c0).mono ?_; rintro e w' ⟨rfl, rfl⟩) | (go_at_call 39; refine HC.out.mono ?_; rintro e w' ⟨v', rfl, ho', hb'⟩))
  go_ret
  exact ⟨_, rfl, ho', hb'⟩
end Go.Proofs.Ytfffkfcemajcpaa
