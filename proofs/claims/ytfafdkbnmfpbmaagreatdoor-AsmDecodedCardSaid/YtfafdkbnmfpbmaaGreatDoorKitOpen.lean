/- Arguments that come in, opened: bytes. -/
import Derived.Test.YtfafdkbnmfpbmaaGreatDoorKitB
import Derived.ProofKit
import Derived.OpenShut
import Derived.ChangeSlices
namespace Go.Proofs.YtfafdkbnmfpbmaaGreatDoor.Kit
open Go.RowKit Go.ChangeShapes Go.WideShapes
set_option linter.unusedVariables false
set_option linter.unusedSimpArgs false

theorem byte_of {n : Int} (h : (Lit.int .u8 n).wf = true) : ((UInt8.ofNat n.toNat).toNat : Int) = n := by
  have h1 : 0 ≤ n ∧ n ≤ 255 := by
    by_cases h2 : 0 ≤ n ∧ n ≤ 255
    · exact h2
    · exfalso; simp [Lit.wf, IntKind.min, IntKind.max, IntKind.signed, IntKind.bits] at h; omega
  rw [UInt8.toNat_ofNat']; omega

/-- Bytes, as one cell of an argument tells them. -/
theorem open_bytes_cell {H : Type} {enc : TypeId × Value → H} {P : Program} {W : World} {t e : TypeId} (bt : ByteTy P t e) (hc1 : P.cellsOf e = 1) {v : Value} {fuel : Nat} {y : DataW H × List MemPlace}
    (hf : DataW.trod enc P W 0 (fun _ => true) true fuel t [v] = some y) : ∃ l : List UInt8, RdB W v l ∧ l.length ≤ maxLen := by
  rcases open_ints bt.slice bt.elem hc1 hf with ⟨hcs, hx⟩ | ⟨a, len, cap, zs, hcs, _, hl, hm, hz, hx, hcell, hwf⟩
  · simp at hcs
    subst hcs
    exact ⟨[], .inl ⟨none, 0, rfl, rfl⟩, Nat.zero_le _⟩
  · simp at hcs
    subst hcs
    simp only [if_true] at hz
    by_cases h0 : len = 0
    · subst h0
      exact ⟨[], .inl ⟨_, _, rfl, rfl⟩, Nat.zero_le _⟩
    · have c0 := hcell 0 (by omega)
      obtain ⟨g, off, spot⟩ := a
      have hs : spot = none := by
        cases spot with
        | none => rfl
        | some s =>
          simp only [Addr.add, if_true, World.cell?] at c0
          split at c0 <;> simp at c0
      subst hs
      have hg : g < W.heap.size := World.block_lt_of_cell? W _ (hcell 0 (by omega))
      have hlen : ((zs.take len).map fun n => UInt8.ofNat n.toNat).length = len := by simp; omega
      refine ⟨(zs.take len).map fun n => UInt8.ofNat n.toNat, .inr ⟨g, off, cap, by rw [hlen], hg, by rw [hlen]; exact hl, hm, fun j hj => ?_⟩, by rw [hlen]; omega⟩
      rw [hlen] at hj
      have hc := hcell j (by omega)
      rw [addr_add] at hc
      rw [hc]
      have hm2 : zs.getD j 0 ∈ zs := by simp [List.getD, List.getElem?_eq_getElem (show j < zs.length by omega)]
      have hb := byte_of (hwf _ hm2)
      congr 2
      rw [← hb]
      simp [List.getD, List.getElem?_take, hj, List.getElem?_eq_getElem (show j < zs.length by omega)]
theorem open_bytes {H : Type} {enc : TypeId × Value → H} {P : Program} {W : World} {b0 : Nat} {t e : TypeId} (bt : ByteTy P t e) (hc1 : P.cellsOf e = 1) {v : Value} {d : DataW H} {p : List MemPlace}
    (hval : Value.okWide P W .any b0 t v) (h : DataW.Trod enc P W 0 (fun _ => true) true t v d p) : ∃ l : List UInt8, RdB W v l ∧ l.length ≤ maxLen := by
  obtain ⟨a0, len, cap, rfl⟩ := okWide_slice bt.slice hval
  obtain ⟨fuel, hf⟩ := h
  exact open_bytes_cell bt hc1 (by simpa [Value.cells] using hf)

end Go.Proofs.YtfafdkbnmfpbmaaGreatDoor.Kit
