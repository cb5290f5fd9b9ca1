/- Shared by the program's side and the document's: bytes that are compared, rows of the document's lines. -/
import Derived.Test.YtfafdkbnmfpbmaaGreatDoorL6Own
namespace Go.Proofs.YtfafdkbnmfpbmaaGreatDoor
open Go.RowKit Kit
set_option linter.unusedVariables false
set_option linter.unusedSimpArgs false

theorem byte_eq (c d : UInt8) : ((c.toNat : Int) == (d.toNat : Int)) = (c == d) := by
  rw [Bool.eq_iff_iff, beq_iff_eq, beq_iff_eq]
  exact ⟨fun h => UInt8.toNat_inj.1 (by omega), fun h => by rw [h]⟩
theorem L6.take_snoc {l : List (List UInt8)} {j : Nat} (hj : j < l.length) : l.take (j + 1) = l.take j ++ [l.getD j []] := by
  rw [List.take_add_one, List.getElem?_eq_getElem hj]
  simp [List.getD, hj]
theorem rlrt : RowTy Tryz.prog 22 108 3 64 :=
  ⟨Tryz.underlying22, by
    have h : (Tryz.prog.info? 108).map (fun i => (i.zero, i.size, i.bytes)) = some (some (.agg #[.slice none 0 0, .string ByteArray.empty, .slice none 0 0]), 3, 64) := by kernel_rfl
    obtain ⟨i, h1, h2, h3, h4⟩ := info_parts h
    exact ⟨i, _, h1, h2, h3, h4, by kernel_rfl⟩⟩
def ROwnL (base : Nat) (w : World) (v : Value) (ls : List L6.Line) : Prop := ∃ cs, w.ownsRow base 108 3 v ls.length cs ∧ LinesV base w ls cs
theorem ROwnL.nil (base : Nat) (w : World) : ROwnL base w (.slice none 0 0) [] := ⟨[], World.ownsRow_nil w base 108 3, rfl⟩
theorem ROwnL.kept {base : Nat} {w w' : World} {v : Value} {ls : List L6.Line} (h : ROwnL base w v ls) (hb : Below w.heap.size w w') : ROwnL base w' v ls := by
  obtain ⟨cs, h1, h2⟩ := h
  exact ⟨cs, own_kept h1 hb, h2.map fun _ _ h => h.kept hb⟩
theorem ROwnL.form {base : Nat} {w : World} {v : Value} {ls : List L6.Line} (h : ROwnL base w v ls) : ∃ A c, v = .slice A ls.length c := by
  obtain ⟨cs, h1, _⟩ := h
  exact (Rd.of_own h1).form
/-- What a row of lines grows by leaves slices of texts alone. -/
theorem OwnS.grown {base base' : Nat} {w1 w' : World} {v u : Value} {n : Nat} {cs : List Value} {l : List (List UInt8)} (hv : w1.ownsRow base' 108 3 v n cs) (hg : w1.grownBy w' v.ownBlock) (hu : OwnS base w1 u l) : OwnS base w' u l := by
  obtain ⟨e1, e2⟩ := hu
  refine ⟨e1, ?_⟩
  rcases e2 with e2 | ⟨g', cap, cur, rfl, hb', hh, rest⟩
  · exact .inl e2
  · refine .inr ⟨g', cap, cur, rfl, hb', (hg.block g' (Array.getElem?_eq_some_iff.1 hh).1 (fun e => ?_)).trans hh, rest⟩
    obtain ⟨_, q⟩ := hv
    rcases q with ⟨rfl, _⟩ | ⟨g2, cap2, cur2, rfl, _, hh2, _⟩
    · simp [Value.ownBlock] at e
    · simp [Value.ownBlock] at e
      subst e
      rw [hh] at hh2
      simp at hh2
theorem ROwnL.grown {base : Nat} {w w1 w' : World} {v v' vl va : Value} {ls : List L6.Line} {x : L6.Line} {cs : List Value} (h2 : LinesV base w ls cs) (hv : w1.ownsRow base 108 3 v ls.length cs) (hb : Below w.heap.size w w1)
    (hl : OwnS base w1 vl x.labels) (ha : OwnS base w1 va x.args) (ho : w'.ownsRow base 108 3 v' (ls.length + 1) (cs ++ [vl, .string ⟨x.word.toArray⟩, va])) (hg : w1.grownBy w' v.ownBlock) : ROwnL base w' v' (ls ++ [x]) :=
  ⟨_, by simpa using ho, LinesV.snoc (OwnS.grown hv hg hl) (OwnS.grown hv hg ha) (h2.map fun u l hu => OwnS.grown hv hg (hu.kept hb))⟩
theorem rone3 {a b : Nat} {w : World} {vl va : Value} {x y : List (List UInt8)} {u : ByteArray} (h1 : OwnS a w vl x) (h2 : OwnS b w va y) : ∀ z ∈ [vl, .string u, va], z.oneCell' = true := by
  obtain ⟨A1, c1, rfl⟩ := h1.form
  obtain ⟨A2, c2, rfl⟩ := h2.form
  intro z hz
  simp only [List.mem_cons, List.not_mem_nil, or_false] at hz
  rcases hz with rfl | rfl | rfl <;> rfl
theorem RdS.at {w : World} {v : Value} {l : List (List UInt8)} (h : RdS w v l) {k : Nat} (hk : k < l.length) : ∃ g off c, v = .slice (some ⟨g, off, none⟩) l.length c ∧ g < w.heap.size ∧ w.cell? ⟨g, off + k, none⟩ = some (.string ⟨(l.getD k []).toArray⟩) := by
  obtain ⟨hl, A, c, rfl, h2, h3, h4⟩ := h
  obtain ⟨g, off, rfl, hg, hc⟩ := h4 (by omega)
  refine ⟨g, off, c, rfl, hg, ?_⟩
  refine hc k _ ?_
  simp [L6.sv, List.getD, List.getElem?_eq_getElem hk]
/-- A slice of texts from k on. -/
theorem RdS.drop {w : World} {v : Value} {l : List (List UInt8)} (h : RdS w v l) {k : Nat} (hk : k ≤ l.length) :
    ∃ v2, (∀ (K : IntKind) W, (Instr.slice 47 v (some (.int K (k : Int))) none none).run Tryz.prog W = .ok v2 W) ∧ RdS w v2 (l.drop k) ∧ ∀ A c, v = .slice A l.length c → v2 = sliced A k l.length c 1 := by
  obtain ⟨hl, A, c, rfl, h2, h3, h4⟩ := h
  refine ⟨sliced A k l.length c 1, ?_, ?_, fun A' c' e => by injection e with e1 e2 e3; rw [e1, e3]⟩
  · intro K W
    have h3' := h3
    unfold maxLen at h3'
    have helem : Tryz.prog.elem 47 = 9 := by simp [Program.elem, Tryz.underlying47]
    have ht : Tryz.prog.underlying 47 = some (.slice (Tryz.prog.elem 47)) := by rw [helem]; exact Tryz.underlying47
    obtain ⟨i, z, hi, hz, hs, hb, hzs⟩ := lsrt.info
    have hsz : (sizeOf (Tryz.prog.elem 47)).run Tryz.prog W = .ok 1 W := by rw [helem]; simp [sizeOf, typeInfo, hi, hs]
    rw [run_slice_l (w := W) 47 _ _ _ ht K k (by omega) (by simp <;> omega), hsz]
    simp
  · refine ⟨by simp [L6.sv], ?_⟩
    unfold sliced
    by_cases hkl : k = l.length
    · subst hkl
      have hd : l.drop l.length = [] := List.drop_of_length_le (Nat.le_refl _)
      rw [hd]
      by_cases hcl : c = l.length
      · exact ⟨A, c - l.length, by rw [if_pos hcl]; simp, by simp, by omega, fun hn => by simp at hn⟩
      · exact ⟨A.map (·.add (l.length * 1)), c - l.length, by rw [if_neg hcl]; simp, by simp, by omega, fun hn => by simp at hn⟩
    · obtain ⟨g, off, rfl, hg, hc⟩ := h4 (by omega)
      have hcl : c ≠ k := by omega
      refine ⟨some ⟨g, off + k, none⟩, c - k, by rw [if_neg hcl]; simp [addr_add], by simp; omega, by omega, fun _ => ⟨g, off + k, rfl, hg, fun j u hu => ?_⟩⟩
      have := hc (k + j) u (by simpa [L6.sv, List.getElem?_drop] using hu)
      rw [show off + k + j = off + (k + j) by omega]
      exact this
end Go.Proofs.YtfafdkbnmfpbmaaGreatDoor
