/- What comes in, opened, with the form's own reach at every depth. Of no program. -/
import Derived.Test.YtfafdkbnmfpbmaaGreatDoorKitS
import Derived.SizedLaws
import Derived.SliceStrings
namespace Go.Proofs.YtfafdkbnmfpbmaaGreatDoor.Kit
open Go.RowKit Go.ChangeShapes Go.WideShapes Go.Deep
set_option linter.unusedVariables false
set_option linter.unusedSimpArgs false

/-- Whatever is read of d takes no more than the reach. -/
def Fits {H : Type} (P : Program) (t : TypeId) (d : DataW H) : Prop := ∀ m ∈ d.weights P t, m ≤ reachBytes
theorem Fits.of_each {H : Type} {P : Program} {ts : List TypeId} {ds : List (DataW H)} (h : (DataW.weightsEach P ts ds).all (· ≤ reachBytes) = true) {j : Nat} {t : TypeId} {d : DataW H} (ht : ts[j]? = some t) (hd : ds[j]? = some d) : Fits P t d := fun m hm => by
  have := List.all_eq_true.1 h _ (DataW.weights_mem_each ht hd m hm)
  simpa using this
theorem weightsAll_mem {H : Type} {P : Program} {e : TypeId} {d : DataW H} {m : Nat} (hm : m ∈ d.weights P e) : ∀ {l : List (DataW H)}, d ∈ l → m ∈ DataW.weightsAll P e l
  | x :: r, h => by
    simp only [DataW.weightsAll, List.mem_append]
    rcases List.mem_cons.1 h with rfl | h
    · exact .inl hm
    · exact .inr (weightsAll_mem hm h)
theorem Fits.elem {H : Type} {P : Program} {t e : TypeId} (ht : P.underlying t = some (.slice e)) {elems spare : List (DataW H)} (h : Fits P t (.slice elems spare)) {d : DataW H} (hd : d ∈ elems) : Fits P e d := fun m hm =>
  h m (by simp only [DataW.weights, ht]; exact List.mem_cons_of_mem _ (List.mem_append_left _ (weightsAll_mem hm hd)))
theorem Fits.row {H : Type} {P : Program} {t e : TypeId} (ht : P.underlying t = some (.slice e)) {elems spare : List (DataW H)} (h : Fits P t (.slice elems spare)) : (elems.length + spare.length) * P.bytesOf e ≤ reachBytes :=
  h _ (by simp [DataW.weights, ht])
theorem Fits.text {H : Type} {P : Program} {t : TypeId} {b : List UInt8} (h : Fits (H := H) P t (.lit (.string b))) : b.length ≤ reachBytes := h _ (by simp [DataW.weights])
theorem Fits.field {H : Type} {P : Program} {t : TypeId} {fs : Array Field} (ht : P.underlying t = some (.struct fs)) {parts : List (DataW H)} (h : Fits P t (.agg parts)) {j : Nat} {f : Field} {d : DataW H} (hf : fs[j]? = some f) (hd : parts[j]? = some d) : Fits P f.type d := fun m hm =>
  h m (by
    simp only [DataW.weights, ht]
    exact DataW.weights_mem_each (j := j) (by rw [List.getElem?_map, Array.getElem?_toList, hf]; rfl) hd m hm)
/-- The cells of a struct whose fields are of one cell each, with the reach. -/
theorem struct_fieldsW {H : Type} {enc : TypeId × Value → H} {P : Program} {W : World} {base : Nat} {spare : Nat → Bool} {held : Bool} {e : TypeId} {fs : Array Field} (he : P.underlying e = some (.struct fs)) (hone : oneCellFields P fs = true) (hC : P.cellsOf e = fs.size)
    {n : Nat} {cs : List Value} {y : DataW H × List MemPlace} (h : DataW.trod enc P W base spare held n e cs = some y) (hl : cs.length = fs.size) (hw : Fits P e y.1) :
    ∃ m, ∀ (j : Nat) (f : Field), fs[j]? = some f → ∃ (v : Value) (y' : DataW H × List MemPlace), cs[j]? = some v ∧ DataW.trod enc P W base spare held m f.type [v] = some y' ∧ Fits P f.type y'.1 := by
  obtain ⟨ys, n', hx, hy, hm, hyl, hf⟩ := DataW.trod_struct he h
  refine ⟨n', fun j f hj => ?_⟩
  obtain ⟨ho, hk⟩ := hone_of hone j f hj
  have hjl : j < fs.size := (Array.getElem?_eq_some_iff.1 hj).1
  have h1 := hf j f hj
  rw [ho, hk] at h1
  have hv : cs[j]? = some (cs[j]'(by omega)) := List.getElem?_eq_getElem (by omega)
  have hone' : (cs.drop j).take 1 = [cs[j]'(by omega)] := by
    rw [List.drop_eq_getElem_cons (by omega)]
    rfl
  rw [hone'] at h1
  have hys : ys[j]? = some (ys[j]'(by omega)) := List.getElem?_eq_getElem (by omega)
  rw [hy] at hw
  exact ⟨_, _, hv, h1.trans hys, hw.field he hj (by rw [List.getElem?_map, hys]; rfl)⟩
/-- A slice of many-celled elements, as a cell of what comes in tells it: it reads as a list of what its elements read as; with the reach. -/
theorem open_rowsW {α : Type} (f : α → List Value) (k : Nat) (hk : 0 < k) (hf : ∀ x, (f x).length = k) (Q : α → Prop) {H : Type} {enc : TypeId × Value → H} {P : Program} {W : World} {t e : TypeId}
    (ht : P.underlying t = some (.slice e)) (hC : P.cellsOf e = k) {spare : Nat → Bool} (hsp : ∀ n, spare n = true)
    (hel : ∀ n cs y, cs.length = k → DataW.trod enc P W 0 spare true n e cs = some y → Fits P e y.1 → ∃ x, cs = f x ∧ Q x)
    {v : Value} {fuel : Nat} {y : DataW H × List MemPlace} (hfu : DataW.trod enc P W 0 spare true fuel t [v] = some y) (hw : Fits P t y.1) :
    ∃ xs : List α, Rd W k v xs.length (xs.flatMap f) ∧ (∀ x ∈ xs, Q x) ∧ xs.length * P.bytesOf e ≤ reachBytes := by
  rcases open_slice ht hfu with ⟨hcs, _⟩ | ⟨a, len, cap, m, n, D, Pl, hcs, _, hl, hm, hmm, hxe, hx⟩
  · simp at hcs
    subst hcs
    exact ⟨[], Rd.nil _ _, fun x hx => by simp at hx, by simp⟩
  · simp at hcs
    subst hcs
    rw [hsp, if_pos rfl] at hmm
    subst hmm
    rw [hC] at hx
    rw [hxe] at hw
    have hex : ∀ i, i < len → ∃ x, (∀ j u, (f x)[j]? = some u → W.cell? ((a.add (i * k)).add j) = some u) ∧ Q x := by
      intro i hi
      obtain ⟨cs', hc, ht'⟩ := hx i (by omega)
      obtain ⟨_, hcl, hat⟩ := World.cells?_some hc
      obtain ⟨x, rfl, hq⟩ := hel _ _ _ hcl ht' (hw.elem ht (List.mem_map.2 ⟨i, by simpa using hi, rfl⟩))
      refine ⟨x, fun j u hu => ?_, hq⟩
      have hj : j < k := by have := (List.getElem?_eq_some_iff.1 hu).1; rw [hf] at this; exact this
      rw [hat j hj]
      exact hu
    have hall : ∀ n', n' ≤ len → ∃ xs : List α, xs.length = n' ∧ ∀ i x, xs[i]? = some x → (∀ j u, (f x)[j]? = some u → W.cell? ((a.add (i * k)).add j) = some u) ∧ Q x := by
      intro n'
      induction n' with
      | zero => exact fun _ => ⟨[], rfl, fun i x hx => by simp at hx⟩
      | succ n' ih =>
        intro hn'
        obtain ⟨xs, hxl, hxs⟩ := ih (by omega)
        obtain ⟨x, hx1, hx2⟩ := hex n' (by omega)
        refine ⟨xs ++ [x], by simp [hxl], fun i y hy => ?_⟩
        by_cases hi : i < n'
        · rw [List.getElem?_append_left (by omega)] at hy
          exact hxs i y hy
        · rw [List.getElem?_append_right (by omega)] at hy
          have hi' : i - xs.length = 0 := by
            have := (List.getElem?_eq_some_iff.1 hy).1
            simp at this; omega
          rw [hi'] at hy
          simp at hy
          subst hy
          obtain rfl : i = n' := by omega
          exact ⟨hx1, hx2⟩
    obtain ⟨xs, hxl, hxs⟩ := hall len (Nat.le_refl _)
    refine ⟨xs, ⟨flat_length f k hf xs, some a, _, by rw [hxl], by omega, hm, fun hn => ?_⟩, fun x hx => ?_, ?_⟩
    · obtain ⟨g, off, spot⟩ := a
      obtain ⟨x0, hx0⟩ : ∃ x0, xs[0]? = some x0 := ⟨xs[0], List.getElem?_eq_getElem hn⟩
      have h00 := (hxs 0 x0 hx0).1
      obtain ⟨u0, hu0⟩ : ∃ u0, (f x0)[0]? = some u0 := ⟨(f x0)[0]'(by rw [hf]; exact hk), List.getElem?_eq_getElem _⟩
      have c0 := h00 0 u0 hu0
      have hs : spot = none := by
        cases spot with
        | none => rfl
        | some s =>
          simp only [Nat.zero_mul, Addr.add, if_true, World.cell?] at c0
          split at c0 <;> simp at c0
      subst hs
      have hg : g < W.heap.size := by
        have := World.block_lt_of_cell? W _ c0
        simpa [addr_add] using this
      refine ⟨g, off, rfl, hg, fun j u hu => ?_⟩
      have hjl : j < xs.length * k := by have := (List.getElem?_eq_some_iff.1 hu).1; rw [flat_length f k hf] at this; exact this
      have hq : j / k < xs.length := (Nat.div_lt_iff_lt_mul hk).2 hjl
      have hr : j % k < k := Nat.mod_lt _ hk
      have ej : j = j / k * k + j % k := by rw [Nat.mul_comm]; exact (Nat.div_add_mod j k).symm
      obtain ⟨x, hxx⟩ : ∃ x, xs[j / k]? = some x := ⟨xs[j / k], List.getElem?_eq_getElem hq⟩
      have := (hxs _ x hxx).1 (j % k) u (by
        rw [ej, flat_at f k hf xs (j / k) (j % k) x hq hr] at hu
        rw [← hu]
        simp [List.getD, hxx])
      rw [addr_add, addr_add, Nat.add_assoc, ← ej] at this
      exact this
    · obtain ⟨i, hi, rfl⟩ := List.mem_iff_getElem.1 hx
      exact (hxs i _ (List.getElem?_eq_getElem hi)).2
    · have := hw.row ht
      simp only [List.length_map, List.length_range] at this
      rw [hxl]
      exact Nat.le_trans (Nat.mul_le_mul_right _ (Nat.le_add_right _ _)) this
end Go.Proofs.YtfafdkbnmfpbmaaGreatDoor.Kit
