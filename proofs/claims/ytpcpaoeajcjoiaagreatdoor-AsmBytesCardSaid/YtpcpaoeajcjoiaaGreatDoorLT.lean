/- Texts joined, what is not reached left out. -/
import Derived.Test.YtpcpaoeajcjoiaaGreatDoorLZ
import Derived.Test.YtpcpaoeajcjoiaaGreatDoorKU
import Derived.Test.YtpcpaoeajcjoiaaGreatDoorQL6Parse
import Derived.Test.YtpcpaoeajcjoiaaGreatDoorQKitS
import Derived.SizedLaws
import Derived.SliceStrings
/- Lines that may be, lines as text: plain. -/
namespace Go.Proofs.YtpcpaoeajcjoiaaGreatDoor
open Go.RowKit Kit
set_option linter.unusedVariables false
set_option linter.unusedSimpArgs false

/-- Is a text just one word? -/
def L6.whole (s : List UInt8) : Bool := decide (L6.wordsOf s = some [s]) && decide (10 ∉ s)
def L6.quoted (s : List UInt8) : Bool := Lib.hasPrefix s [34]
/-- May a line be? -/
def L6.right (x : L6.Line) : Bool := !(x.labels.any (fun s => !L6.whole s) || x.labels.any L6.quoted || x.args.any (fun s => !L6.whole s)) &&
  if x.word = [] then decide (x.args = []) else L6.whole x.word && (!L6.quoted x.word && !L6.label x.word)
/-- The index that IndexFunc tells. -/
def L6.idx (p : List UInt8 → Bool) (l : List (List UInt8)) : Int := if l.any p then (l.findIdx p : Nat) else -1
/-- What a list of texts may hold here. -/
def L6.Few1 (l : List (List UInt8)) : Prop := l.length ≤ 1000000000 ∧ ∀ x ∈ l, x.length ≤ 1000000000
def L6.Line.Few (x : L6.Line) : Prop := L6.Few1 x.labels ∧ x.word.length ≤ 1000000000 ∧ L6.Few1 x.args
theorem L6.Line.Few.fits {x : L6.Line} (h : x.Few) : x.fits := ⟨h.1.1, h.2.2.1⟩
/-- How great lines are. -/
def L6.tsum (l : List (List UInt8)) : Nat := (l.map List.length).sum
def L6.lweight (x : L6.Line) : Nat := 4 + x.word.length + x.labels.length + x.args.length + L6.tsum x.labels + L6.tsum x.args
def L6.weight (ls : List L6.Line) : Nat := (ls.map L6.lweight).sum
theorem L6.tsum_cons (x : List UInt8) (t : List (List UInt8)) : L6.tsum (x :: t) = x.length + L6.tsum t := by simp [L6.tsum]
theorem L6.tsum_app (a b : List (List UInt8)) : L6.tsum (a ++ b) = L6.tsum a + L6.tsum b := by simp [L6.tsum]
theorem L6.weight_cons (x : L6.Line) (t : List L6.Line) : L6.weight (x :: t) = L6.lweight x + L6.weight t := by simp [L6.weight]
theorem L6.tsum_mem {l : List (List UInt8)} {x : List UInt8} (h : x ∈ l) : x.length ≤ L6.tsum l := by
  induction l with
  | nil => simp at h
  | cons y t ih =>
    rw [L6.tsum_cons]
    rcases List.mem_cons.1 h with rfl | h
    · omega
    · have := ih h; omega
theorem L6.weight_mem {ls : List L6.Line} {x : L6.Line} (h : x ∈ ls) : L6.lweight x ≤ L6.weight ls := by
  induction ls with
  | nil => simp at h
  | cons y t ih =>
    rw [L6.weight_cons]
    rcases List.mem_cons.1 h with rfl | h
    · omega
    · have := ih h; omega
theorem L6.weight_len (ls : List L6.Line) : 4 * ls.length ≤ L6.weight ls := by
  induction ls with
  | nil => simp
  | cons y t ih => rw [L6.weight_cons, List.length_cons]; unfold L6.lweight; omega
/-- A line's words as they are printed. -/
def L6.marked (l : List (List UInt8)) : List (List UInt8) := l.map (· ++ [58])
def L6.lineWords (x : L6.Line) : List (List UInt8) := L6.marked x.labels ++ (if x.word = [] then [] else [x.word]) ++ x.args
def L6.lineText (x : L6.Line) : List UInt8 := Lib.join (L6.lineWords x) [32] ++ [10]
def L6.text (ls : List L6.Line) : List UInt8 := ls.flatMap L6.lineText
theorem app_eq (a b : List UInt8) : (⟨a.toArray⟩ : ByteArray) ++ ⟨b.toArray⟩ = ⟨(a ++ b).toArray⟩ := by
  apply ByteArray.ext
  rw [ByteArray.data_append]
  simp
theorem OwnS.snoc {base : Nat} {w : World} {v : Value} {l : List (List UInt8)} {y : List UInt8} {n : Nat} (hn : l.length = n) (h : w.ownsRow base 9 1 v (n + 1) (L6.sv l ++ [.string ⟨y.toArray⟩])) : OwnS base w v (l ++ [y]) := by
  unfold OwnS
  rw [L6.sv_append, List.length_append, hn]
  exact h
theorem OwnS.many {base : Nat} {w : World} {v : Value} {l r : List (List UInt8)} {n m : Nat} (hn : l.length = n) (hm : r.length = m) (h : w.ownsRow base 9 1 v (n + m) (L6.sv l ++ L6.sv r)) : OwnS base w v (l ++ r) := by
  unfold OwnS
  rw [L6.sv_append, List.length_append, hn, hm]
  exact h
theorem OwnS.row {base : Nat} {w : World} {v : Value} {l : List (List UInt8)} {n : Nat} (h : OwnS base w v l) (hn : l.length = n) : w.ownsRow base 9 1 v n (L6.sv l) := by
  unfold OwnS at h
  rw [hn] at h
  exact h
end Go.Proofs.YtpcpaoeajcjoiaaGreatDoor
/- What comes in, opened, with the form's own reach at every depth. Of no program. -/
namespace Go.Proofs.YtpcpaoeajcjoiaaGreatDoor.Kit
open Go.RowKit Go.ChangeShapes Go.WideShapes Go.Deep
set_option linter.unusedVariables false
set_option linter.unusedSimpArgs false

/-- Whatever is read of d takes no more than the reach. -/
def Fits {H : Type} (P : Program) (t : TypeId) (d : DataW H) : Prop := ∀ m ∈ d.weights P t, m ≤ reachBytes
theorem Fits.of_each {H : Type} {P : Program} {ts : List TypeId} {ds : List (DataW H)} (h : (DataW.weightsEach P ts ds).all (· ≤ reachBytes) = true) {j : Nat} {t : TypeId} {d : DataW H} (ht : ts[j]? = some t) (hd : ds[j]? = some d) : Fits P t d := fun m hm => by
  have := List.all_eq_true.1 h _ (DataW.weights_mem_each ht hd m hm)
  simpa using this
theorem weightsAll_mem {H : Type} {P : Program} {e : TypeId} {d : DataW H} {m : Nat} (hm : m ∈ d.weights P e) : ∀ {l : List (DataW H)}, d ∈ l → m ∈ DataW.weightsAll P e l
  | x :: r, h => by
    simp only [DataW.weightsAll, List.mem_append]
    rcases List.mem_cons.1 h with rfl | h
    · exact .inl hm
    · exact .inr (weightsAll_mem hm h)
theorem Fits.elem {H : Type} {P : Program} {t e : TypeId} (ht : P.underlying t = some (.slice e)) {elems spare : List (DataW H)} (h : Fits P t (.slice elems spare)) {d : DataW H} (hd : d ∈ elems) : Fits P e d := fun m hm =>
  h m (by simp only [DataW.weights, ht]; exact List.mem_cons_of_mem _ (List.mem_append_left _ (weightsAll_mem hm hd)))
theorem Fits.row {H : Type} {P : Program} {t e : TypeId} (ht : P.underlying t = some (.slice e)) {elems spare : List (DataW H)} (h : Fits P t (.slice elems spare)) : (elems.length + spare.length) * P.bytesOf e ≤ reachBytes :=
  h _ (by simp [DataW.weights, ht])
theorem Fits.text {H : Type} {P : Program} {t : TypeId} {b : List UInt8} (h : Fits (H := H) P t (.lit (.string b))) : b.length ≤ reachBytes := h _ (by simp [DataW.weights])
theorem Fits.field {H : Type} {P : Program} {t : TypeId} {fs : Array Field} (ht : P.underlying t = some (.struct fs)) {parts : List (DataW H)} (h : Fits P t (.agg parts)) {j : Nat} {f : Field} {d : DataW H} (hf : fs[j]? = some f) (hd : parts[j]? = some d) : Fits P f.type d := fun m hm =>
  h m (by
    simp only [DataW.weights, ht]
    exact DataW.weights_mem_each (j := j) (by rw [List.getElem?_map, Array.getElem?_toList, hf]; rfl) hd m hm)
/-- The cells of a struct whose fields are of one cell each, with the reach. -/
theorem struct_fieldsW {H : Type} {enc : TypeId × Value → H} {P : Program} {W : World} {base : Nat} {spare : Nat → Bool} {held : Bool} {e : TypeId} {fs : Array Field} (he : P.underlying e = some (.struct fs)) (hone : oneCellFields P fs = true) (hC : P.cellsOf e = fs.size)
    {n : Nat} {cs : List Value} {y : DataW H × List MemPlace} (h : DataW.trod enc P W base spare held n e cs = some y) (hl : cs.length = fs.size) (hw : Fits P e y.1) :
    ∃ m, ∀ (j : Nat) (f : Field), fs[j]? = some f → ∃ (v : Value) (y' : DataW H × List MemPlace), cs[j]? = some v ∧ DataW.trod enc P W base spare held m f.type [v] = some y' ∧ Fits P f.type y'.1 := by
  obtain ⟨ys, n', hx, hy, hm, hyl, hf⟩ := DataW.trod_struct he h
  refine ⟨n', fun j f hj => ?_⟩
  obtain ⟨ho, hk⟩ := hone_of hone j f hj
  have hjl : j < fs.size := (Array.getElem?_eq_some_iff.1 hj).1
  have h1 := hf j f hj
  rw [ho, hk] at h1
  have hv : cs[j]? = some (cs[j]'(by omega)) := List.getElem?_eq_getElem (by omega)
  have hone' : (cs.drop j).take 1 = [cs[j]'(by omega)] := by
    rw [List.drop_eq_getElem_cons (by omega)]
    rfl
  rw [hone'] at h1
  have hys : ys[j]? = some (ys[j]'(by omega)) := List.getElem?_eq_getElem (by omega)
  rw [hy] at hw
  exact ⟨_, _, hv, h1.trans hys, hw.field he hj (by rw [List.getElem?_map, hys]; rfl)⟩
/-- A slice of many-celled elements, as a cell of what comes in tells it: it reads as a list of what its elements read as; with the reach. -/
theorem open_rowsW {α : Type} (f : α → List Value) (k : Nat) (hk : 0 < k) (hf : ∀ x, (f x).length = k) (Q : α → Prop) {H : Type} {enc : TypeId × Value → H} {P : Program} {W : World} {t e : TypeId}
    (ht : P.underlying t = some (.slice e)) (hC : P.cellsOf e = k) {spare : Nat → Bool} (hsp : ∀ n, spare n = true)
    (hel : ∀ n cs y, cs.length = k → DataW.trod enc P W 0 spare true n e cs = some y → Fits P e y.1 → ∃ x, cs = f x ∧ Q x)
    {v : Value} {fuel : Nat} {y : DataW H × List MemPlace} (hfu : DataW.trod enc P W 0 spare true fuel t [v] = some y) (hw : Fits P t y.1) :
    ∃ xs : List α, Rd W k v xs.length (xs.flatMap f) ∧ (∀ x ∈ xs, Q x) ∧ xs.length * P.bytesOf e ≤ reachBytes := by
  rcases open_slice ht hfu with ⟨hcs, _⟩ | ⟨a, len, cap, m, n, D, Pl, hcs, _, hl, hm, hmm, hxe, hx⟩
  · simp at hcs
    subst hcs
    exact ⟨[], Rd.nil _ _, fun x hx => by simp at hx, by simp⟩
  · simp at hcs
    subst hcs
    rw [hsp, if_pos rfl] at hmm
    subst hmm
    rw [hC] at hx
    rw [hxe] at hw
    have hex : ∀ i, i < len → ∃ x, (∀ j u, (f x)[j]? = some u → W.cell? ((a.add (i * k)).add j) = some u) ∧ Q x := by
      intro i hi
      obtain ⟨cs', hc, ht'⟩ := hx i (by omega)
      obtain ⟨_, hcl, hat⟩ := World.cells?_some hc
      obtain ⟨x, rfl, hq⟩ := hel _ _ _ hcl ht' (hw.elem ht (List.mem_map.2 ⟨i, by simpa using hi, rfl⟩))
      refine ⟨x, fun j u hu => ?_, hq⟩
      have hj : j < k := by have := (List.getElem?_eq_some_iff.1 hu).1; rw [hf] at this; exact this
      rw [hat j hj]
      exact hu
    have hall : ∀ n', n' ≤ len → ∃ xs : List α, xs.length = n' ∧ ∀ i x, xs[i]? = some x → (∀ j u, (f x)[j]? = some u → W.cell? ((a.add (i * k)).add j) = some u) ∧ Q x := by
      intro n'
      induction n' with
      | zero => exact fun _ => ⟨[], rfl, fun i x hx => by simp at hx⟩
      | succ n' ih =>
        intro hn'
        obtain ⟨xs, hxl, hxs⟩ := ih (by omega)
        obtain ⟨x, hx1, hx2⟩ := hex n' (by omega)
        refine ⟨xs ++ [x], by simp [hxl], fun i y hy => ?_⟩
        by_cases hi : i < n'
        · rw [List.getElem?_append_left (by omega)] at hy
          exact hxs i y hy
        · rw [List.getElem?_append_right (by omega)] at hy
          have hi' : i - xs.length = 0 := by
            have := (List.getElem?_eq_some_iff.1 hy).1
            simp at this; omega
          rw [hi'] at hy
          simp at hy
          subst hy
          obtain rfl : i = n' := by omega
          exact ⟨hx1, hx2⟩
    obtain ⟨xs, hxl, hxs⟩ := hall len (Nat.le_refl _)
    refine ⟨xs, ⟨flat_length f k hf xs, some a, _, by rw [hxl], by omega, hm, fun hn => ?_⟩, fun x hx => ?_, ?_⟩
    · obtain ⟨g, off, spot⟩ := a
      obtain ⟨x0, hx0⟩ : ∃ x0, xs[0]? = some x0 := ⟨xs[0], List.getElem?_eq_getElem hn⟩
      have h00 := (hxs 0 x0 hx0).1
      obtain ⟨u0, hu0⟩ : ∃ u0, (f x0)[0]? = some u0 := ⟨(f x0)[0]'(by rw [hf]; exact hk), List.getElem?_eq_getElem _⟩
      have c0 := h00 0 u0 hu0
      have hs : spot = none := by
        cases spot with
        | none => rfl
        | some s =>
          simp only [Nat.zero_mul, Addr.add, if_true, World.cell?] at c0
          split at c0 <;> simp at c0
      subst hs
      have hg : g < W.heap.size := by
        have := World.block_lt_of_cell? W _ c0
        simpa [addr_add] using this
      refine ⟨g, off, rfl, hg, fun j u hu => ?_⟩
      have hjl : j < xs.length * k := by have := (List.getElem?_eq_some_iff.1 hu).1; rw [flat_length f k hf] at this; exact this
      have hq : j / k < xs.length := (Nat.div_lt_iff_lt_mul hk).2 hjl
      have hr : j % k < k := Nat.mod_lt _ hk
      have ej : j = j / k * k + j % k := by rw [Nat.mul_comm]; exact (Nat.div_add_mod j k).symm
      obtain ⟨x, hxx⟩ : ∃ x, xs[j / k]? = some x := ⟨xs[j / k], List.getElem?_eq_getElem hq⟩
      have := (hxs _ x hxx).1 (j % k) u (by
        rw [ej, flat_at f k hf xs (j / k) (j % k) x hq hr] at hu
        rw [← hu]
        simp [List.getD, hxx])
      rw [addr_add, addr_add, Nat.add_assoc, ← ej] at this
      exact this
    · obtain ⟨i, hi, rfl⟩ := List.mem_iff_getElem.1 hx
      exact (hxs i _ (List.getElem?_eq_getElem hi)).2
    · have := hw.row ht
      simp only [List.length_map, List.length_range] at this
      rw [hxl]
      exact Nat.le_trans (Nat.mul_le_mul_right _ (Nat.le_add_right _ _)) this
end Go.Proofs.YtpcpaoeajcjoiaaGreatDoor.Kit
/- Lines that come in. -/
namespace Go.Proofs.YtpcpaoeajcjoiaaGreatDoor
open Go.RowKit Kit Go.ChangeShapes Go.WideShapes Go.Deep
set_option linter.unusedVariables false
set_option linter.unusedSimpArgs false

/-- A list of texts that is no greater than the reach. -/
def L6.Texts (l : List (List UInt8)) : Prop := l.length ≤ 140737488351232 ∧ ∀ x ∈ l, x.length ≤ 140737488351232
theorem open_texts {H : Type} {enc : TypeId × Value → H} {w : World} {v : Value} {fuel : Nat} {y : DataW H × List MemPlace}
    (h : DataW.trod enc Tryz.prog w 0 (fun _ => true) true fuel 61 [v] = some y) (hw : Fits Tryz.prog 61 y.1) : ∃ l, RdS w v l ∧ L6.Texts l := by
  obtain ⟨xs, h1, h2, h3⟩ := open_rowsW (spare := fun _ => true) (fun x : List UInt8 => [Value.string ⟨x.toArray⟩]) 1 (by decide) (fun _ => rfl) (fun x => x.length ≤ 140737488351232) Tryz.underlying61 (by kernel_rfl) (fun _ => rfl)
    (fun n cs y hl ht hf => by
      obtain ⟨s, rfl, hy, _⟩ := DataW.trod_string Tryz.underlying9 ht
      rw [hy] at hf
      exact ⟨s.data.toList, by simp, hf.text⟩) h hw
  refine ⟨xs, ?_, ?_, h2⟩
  · unfold RdS L6.sv
    rw [show xs.map (fun x => Value.string ⟨x.toArray⟩) = xs.flatMap fun x => [Value.string ⟨x.toArray⟩] from by
      clear h1 h2 h3
      induction xs with
      | nil => rfl
      | cons x t ih => simp [ih]]
    exact h1
  · rw [show Tryz.prog.bytesOf 9 = 16 from by kernel_rfl] at h3
    simp only [reachBytes] at h3
    omega
/-- A line that comes in, with the values of its slices. -/
structure L6.In where
  vl : Value
  va : Value
  line : L6.Line
def L6.In.cells (x : L6.In) : List Value := [x.vl, .string ⟨x.line.word.toArray⟩, x.va]
def L6.Line.Small (x : L6.Line) : Prop := L6.Texts x.labels ∧ x.word.length ≤ 140737488351232 ∧ L6.Texts x.args
def L6.In.ok (w : World) (x : L6.In) : Prop := RdS w x.vl x.line.labels ∧ RdS w x.va x.line.args ∧ x.line.Small
set_option maxRecDepth 100000 in
theorem open_line {H : Type} {enc : TypeId × Value → H} {w : World} {n : Nat} {cs : List Value} {y : DataW H × List MemPlace} (hl : cs.length = 3)
    (ht : DataW.trod enc Tryz.prog w 0 (fun _ => true) true n 93 cs = some y) (hw : Fits Tryz.prog 93 y.1) : ∃ x : L6.In, cs = x.cells ∧ x.ok w := by
  obtain ⟨m, hf⟩ := struct_fieldsW Tryz.underlying93 (by kernel_rfl) (by kernel_rfl) ht hl hw
  obtain ⟨v0, y0, e0, h0, w0⟩ := hf 0 _ rfl
  obtain ⟨v1, y1, e1, h1, w1⟩ := hf 1 _ rfl
  obtain ⟨v2, y2, e2, h2, w2⟩ := hf 2 _ rfl
  obtain ⟨ll, r0, t0⟩ := open_texts h0 w0
  obtain ⟨la, r2, t2⟩ := open_texts h2 w2
  obtain ⟨s, k1, hy, _⟩ := DataW.trod_string Tryz.underlying9 h1
  rw [hy] at w1
  have hs := w1.text
  simp only [List.cons.injEq, and_true] at k1
  subst k1
  match cs, hl with
  | [c0, c1, c2], _ =>
    simp at e0 e1 e2
    subst e0 e1 e2
    exact ⟨⟨c0, c2, ⟨ll, s.data.toList, la⟩⟩, by simp [L6.In.cells], r0, r2, t0, hs, t2⟩
theorem lines_of_in {w : World} : ∀ {xs : List L6.In}, (∀ x ∈ xs, x.ok w) → LinesRd w (xs.map (·.line)) (xs.flatMap L6.In.cells)
  | [], _ => rfl
  | x :: t, h => ⟨x.vl, x.va, t.flatMap L6.In.cells, rfl, (h x (by simp)).1, (h x (by simp)).2.1, lines_of_in fun y hy => h y (by simp [hy])⟩
/-- Lines that come in. -/
def L6.Small (ls : List L6.Line) : Prop := ls.length ≤ 2199023255552 ∧ ∀ x ∈ ls, x.Small
set_option maxRecDepth 100000 in
theorem open_lines_cell {H : Type} {enc : TypeId × Value → H} {w : World} {v : Value} {fuel : Nat} {y : DataW H × List MemPlace}
    (h : DataW.trod enc Tryz.prog w 0 (fun _ => true) true fuel 22 [v] = some y) (hw : Fits Tryz.prog 22 y.1) : ∃ ls, RdL w v ls ∧ L6.Small ls := by
  obtain ⟨xs, h1, h2, h3⟩ := open_rowsW (spare := fun _ => true) L6.In.cells 3 (by decide) (fun _ => rfl) (L6.In.ok w) Tryz.underlying22 (by kernel_rfl) (fun _ => rfl) (fun n cs y hl ht hf => open_line hl ht hf) h hw
  refine ⟨xs.map (·.line), ⟨xs.flatMap L6.In.cells, by simpa using h1, lines_of_in h2⟩, ?_, fun x hx => ?_⟩
  · rw [show Tryz.prog.bytesOf 93 = 64 from by kernel_rfl] at h3
    simp only [reachBytes] at h3
    simp only [List.length_map]
    omega
  · obtain ⟨y, hy, rfl⟩ := List.mem_map.1 hx
    exact (h2 y hy).2.2
set_option maxRecDepth 100000 in
theorem open_lines {H : Type} {enc : TypeId × Value → H} {w : World} {b0 : Nat} {v : Value} {d : DataW H} {p : List MemPlace} (hv : Value.okWide Tryz.prog w .any b0 22 v)
    (h : DataW.Trod enc Tryz.prog w 0 (fun _ => true) true 22 v d p) (hw : Fits Tryz.prog 22 d) : ∃ ls, RdL w v ls ∧ L6.Small ls := by
  obtain ⟨a0, len, cap, rfl⟩ := okWide_slice Tryz.underlying22 hv
  obtain ⟨fuel, hf⟩ := h
  exact open_lines_cell (by simpa [Value.cells] using hf) hw
end Go.Proofs.YtpcpaoeajcjoiaaGreatDoor
/- Are lines light? What that bounds. -/
namespace Go.Proofs.YtpcpaoeajcjoiaaGreatDoor
open Go.RowKit Kit
set_option linter.unusedVariables false
set_option linter.unusedSimpArgs false

theorem L6.weight_snoc {ls : List L6.Line} {k : Nat} (hk : k < ls.length) : L6.weight (ls.take (k + 1)) = L6.weight (ls.take k) + L6.lweight ls[k] := by
  rw [lines_take hk]
  simp only [L6.weight, List.map_append, List.sum_append, List.map_cons, List.map_nil, List.sum_cons, List.sum_nil, Nat.add_zero]
def LightPost (w : World) (ls : List L6.Line) (e : Ending) (w' : World) : Prop := ∃ b : Bool, e = .returned (.bool b) ∧ (b = true → L6.weight ls ≤ 3000) ∧ Below w.heap.size w w'
set_option maxRecDepth 100000 in
set_option maxHeartbeats 4000000 in
theorem llight_any (v : Value) (ls : List L6.Line) (w : World) (h : RdL w v ls) (hs : L6.Small ls) :
    Calls Tryz.prog 9 #[v] w (LightPost w ls) := by
  have HH := Lib.hid h
  have HS := Lib.hid hs
  have HLL := Lib.hid hs.1
  obtain ⟨A, c, rfl⟩ := h.form
  clear h hs
  go_enter Tryz.func9, Tryz.ntmps9
  go_wp2_with fail
  go_loopw [3, 4] (fun a i wr => ∃ (L : Int) (k n : Nat), a = .int .i64 L ∧ i = .int .i64 (k : Int) ∧ wr = w.drewN n ∧ k ≤ ls.length ∧ -1000000000000000 ≤ L ∧ L ≤ 3000 ∧ (0 ≤ L → L = 3000 - (L6.weight (ls.take k) : Nat))) (fun _ i _ => match i with | .int _ n => ls.length - n.toNat | _ => 0)
  case atStart => exact ⟨3000, 0, 0, rfl, rfl, rfl, Nat.zero_le _, by omega, by omega, fun _ => by simp [L6.weight]⟩
  case round =>
    obtain ⟨L, k, n, rfl, rfl, rfl, hk, hLlo, hLhi, hL⟩ := hrel
    have HL0 := Lib.hid hL
    clear hL
    by_cases hz : 0 ≤ L
    · by_cases hlt : k < ls.length
      · have hlt' : (k : Int) < (ls.length : Int) := by omega
        have hw1 : IntKind.i64.wrap ((k : Int) + 1) = (k : Int) + 1 := by have := HLL.out; rw [IntKind.wrap_i64]; omega
        obtain ⟨g, off, c', vl, va, e, hg, c0, c1, c2, r1, r2⟩ := HH.out.at hlt
        injection e with e1 e2 e3
        subst e1 e3
        have HWS := Lib.hid (L6.weight_snoc hlt)
        have HSM := Lib.hid (HS.out.2 _ (List.getElem_mem hlt))
        have HLE := Lib.hid (HL0.out hz)
        have HLT := Lib.hid hlt
        have HR1 := Lib.hid r1
        have HR2 := Lib.hid r2
        clear r1 r2 HL0
        generalize hX : ls[k] = X at *
        clear hX hlt
        obtain ⟨xl, xw, xa⟩ := X
        dsimp only at HR1 HR2 c1
        unfold L6.Line.Small at HSM
        dsimp only at HSM
        obtain ⟨B1, cc1, rfl⟩ := HR1.out.form
        obtain ⟨B2, cc2, rfl⟩ := HR2.out.form
        have s1 := HSM.out.1.1
        have s2 := HSM.out.2.1
        have s3 := HSM.out.2.2.1
        have w1 : IntKind.i64.wrap (L - 4) = L - 4 := by rw [IntKind.wrap_i64]; omega
        have w2 : IntKind.i64.wrap (L - 4 - (xw.length : Int)) = L - 4 - (xw.length : Int) := by rw [IntKind.wrap_i64]; omega
        have w3 : IntKind.i64.wrap (L - 4 - (xw.length : Int) - (xl.length : Int)) = L - 4 - (xw.length : Int) - (xl.length : Int) := by rw [IntKind.wrap_i64]; omega
        obtain ⟨M, hM⟩ : ∃ M : Int, M = L - 4 - (xw.length : Int) - (xl.length : Int) - (xa.length : Int) := ⟨_, rfl⟩
        have w4 : IntKind.i64.wrap (L - 4 - (xw.length : Int) - (xl.length : Int) - (xa.length : Int)) = M := by rw [IntKind.wrap_i64]; omega
        have hMlo : -1000000000000000 ≤ M := by omega
        have hMhi : M ≤ 3000 := by omega
        have HM := Lib.hid (show M = 3000 - ((L6.weight (ls.take k) : Nat) : Int) - 4 - (xw.length : Int) - (xl.length : Int) - (xa.length : Int) from by have := HLE.out; omega)
        have HWX := Lib.hid (show (L6.weight (ls.take (k + 1)) : Nat) = L6.weight (ls.take k) + (4 + xw.length + xl.length + xa.length + L6.tsum xl + L6.tsum xa) from HWS.out)
        clear hM s1 s2 s3
        go_wp2_with fail
        go_quiet (fail)
        go_wp2_with fail
        clear w1 w2 w3 w4
        go_loopw [3, 5] (fun a i wr => ∃ (L : Int) (j n : Nat), a = .int .i64 L ∧ i = .int .i64 (j : Int) ∧ wr = w.drewN n ∧ j ≤ xl.length ∧ -1000000000000000 ≤ L ∧ L ≤ 3000 ∧ (0 ≤ L → L = M - (L6.tsum (xl.take j) : Nat))) (fun _ i _ => match i with | .int _ n => xl.length - n.toNat | _ => 0)
        case atStart => exact ⟨_, 0, n + nq, rfl, rfl, by rw [World.drewN_drewN], Nat.zero_le _, by exact hMlo, by exact hMhi, fun hz => by simp [L6.tsum]⟩
        case round =>
          obtain ⟨L, j, n, rfl, rfl, rfl, hj, hLlo, hLhi, hL⟩ := hrel
          have HL := Lib.hid hL
          clear hL
          by_cases hjl : j < xl.length
          · have hjl' : (j : Int) < (xl.length : Int) := by omega
            by_cases hz : 0 ≤ L
            · obtain ⟨gl, ofl, cl, e, hgl, hcl⟩ := HR1.out.at hjl
              injection e with e1 e2 e3
              subst e1 e3
              have hmem : xl.getD j [] ∈ xl := by rw [List.getD, List.getElem?_eq_getElem hjl]; exact List.getElem_mem hjl
              have hyl := HSM.out.1.2 _ hmem
              have hfl := HSM.out.1.1
              have hwj : IntKind.i64.wrap ((j : Int) + 1) = (j : Int) + 1 := by rw [IntKind.wrap_i64]; omega
              have HJ := Lib.hid (show L6.tsum (xl.take (j + 1)) = L6.tsum (xl.take j) + (xl.getD j []).length from by rw [L6.take_snoc hjl, L6.tsum_app]; simp [L6.tsum])
              have HJL := Lib.hid hjl
              clear hmem hjl
              generalize xl.getD j [] = y at *
              have hwl : IntKind.i64.wrap (L - (y.length : Int)) = L - (y.length : Int) := by rw [IntKind.wrap_i64]; omega
              have HLE := Lib.hid (HL.out hz)
              go_wp2_with fail
              go_roundw
              case rel => exact ⟨L - (y.length : Int), j + 1, n, rfl, by simp, rfl, HJL.out, by omega, by omega, fun _ => by have := HLE.out; have := HJ.out; omega⟩
              case measure => have := HJL.out; simp; omega
            · have hz' : ¬ (0 : Int) ≤ L := hz
              go_wp2_with fail
              obtain ⟨P, hP⟩ : ∃ P : Int, P = 3000 - ((L6.weight (ls.take k) : Nat) : Int) - 4 - (xw.length : Int) - (xl.length : Int) - (xa.length : Int) - (L6.tsum xl : Nat) := ⟨_, rfl⟩
              have HPP : Hid (P = 3000 - ((L6.weight (ls.take k) : Nat) : Int) - 4 - (xw.length : Int) - (xl.length : Int) - (xa.length : Int) - (L6.tsum xl : Nat)) := Lib.hid hP
              clear hP
              go_loopw [3, 6] (fun a i wr => ∃ (L : Int) (j n : Nat), a = .int .i64 L ∧ i = .int .i64 (j : Int) ∧ wr = w.drewN n ∧ j ≤ xa.length ∧ -1000000000000000 ≤ L ∧ L ≤ 3000 ∧ (0 ≤ L → L = (P : Int) - (L6.tsum (xa.take j) : Nat))) (fun _ i _ => match i with | .int _ n => xa.length - n.toNat | _ => 0)
              case atStart => exact ⟨_, 0, _, rfl, rfl, rfl, Nat.zero_le _, by omega, by omega, fun hz0 => by omega⟩
              case round =>
                obtain ⟨L, j, n, rfl, rfl, rfl, hj, hLlo, hLhi, hL⟩ := hrel
                have HL := Lib.hid hL
                clear hL
                by_cases hjl : j < xa.length
                · have hjl' : (j : Int) < (xa.length : Int) := by omega
                  by_cases hz : 0 ≤ L
                  · obtain ⟨gl, ofl, cl, e, hgl, hcl⟩ := HR2.out.at hjl
                    injection e with e1 e2 e3
                    subst e1 e3
                    have hmem : xa.getD j [] ∈ xa := by rw [List.getD, List.getElem?_eq_getElem hjl]; exact List.getElem_mem hjl
                    have hyl := HSM.out.2.2.2 _ hmem
                    have hfl := HSM.out.2.2.1
                    have hwj : IntKind.i64.wrap ((j : Int) + 1) = (j : Int) + 1 := by rw [IntKind.wrap_i64]; omega
                    have HJ := Lib.hid (show L6.tsum (xa.take (j + 1)) = L6.tsum (xa.take j) + (xa.getD j []).length from by rw [L6.take_snoc hjl, L6.tsum_app]; simp [L6.tsum])
                    have HJL := Lib.hid hjl
                    clear hmem hjl
                    generalize xa.getD j [] = y at *
                    have hwl : IntKind.i64.wrap (L - (y.length : Int)) = L - (y.length : Int) := by rw [IntKind.wrap_i64]; omega
                    have HLE := Lib.hid (HL.out hz)
                    go_wp2_with fail
                    go_roundw
                    case rel => exact ⟨L - (y.length : Int), j + 1, n, rfl, by simp, rfl, HJL.out, by omega, by omega, fun _ => by have := HLE.out; have := HJ.out; omega⟩
                    case measure => have := HJL.out; simp; omega
                  · have hz' : ¬ (0 : Int) ≤ L := hz
                    go_wp2_with fail
                    go_roundw
                    case rel => exact ⟨L, k + 1, n, rfl, by simp, rfl, HLT.out, hLlo, hLhi, fun hh => by omega⟩
                    case measure => have := HLT.out; simp; omega
                · have hle : (xa.length : Int) ≤ (j : Int) := by omega
                  obtain rfl : j = xa.length := by omega
                  have HT := Lib.hid (show xa.take xa.length = xa from List.take_of_length_le (Nat.le_refl _))
                  go_wp2_with fail
                  go_roundw
                  case rel => exact ⟨L, k + 1, n, rfl, by simp, rfl, HLT.out, hLlo, hLhi, fun hh => by have := HL.out hh; rw [HT.out] at this; have := HPP.out; have := HWX.out; omega⟩
                  case measure => have := HLT.out; simp; omega
          · have hle : (xl.length : Int) ≤ (j : Int) := by omega
            obtain rfl : j = xl.length := by omega
            have HT := Lib.hid (show xl.take xl.length = xl from List.take_of_length_le (Nat.le_refl _))
            go_wp2_with fail
            have HLL2 := Lib.hid (fun hz => (HL.out hz).trans (by rw [HT.out, HM.out]))
            obtain ⟨P, hP⟩ : ∃ P : Int, P = 3000 - ((L6.weight (ls.take k) : Nat) : Int) - 4 - (xw.length : Int) - (xl.length : Int) - (xa.length : Int) - (L6.tsum xl : Nat) := ⟨_, rfl⟩
            have HPP : Hid (P = 3000 - ((L6.weight (ls.take k) : Nat) : Int) - 4 - (xw.length : Int) - (xl.length : Int) - (xa.length : Int) - (L6.tsum xl : Nat)) := Lib.hid hP
            rw [← hP] at HLL2
            clear hP
            go_loopw [3, 6] (fun a i wr => ∃ (L : Int) (j n : Nat), a = .int .i64 L ∧ i = .int .i64 (j : Int) ∧ wr = w.drewN n ∧ j ≤ xa.length ∧ -1000000000000000 ≤ L ∧ L ≤ 3000 ∧ (0 ≤ L → L = (P : Int) - (L6.tsum (xa.take j) : Nat))) (fun _ i _ => match i with | .int _ n => xa.length - n.toNat | _ => 0)
            case atStart => exact ⟨_, 0, _, rfl, rfl, rfl, Nat.zero_le _, by omega, by omega, fun hz => by have := HLL2.out hz; simp [L6.tsum]; omega⟩
            case round =>
              obtain ⟨L, j, n, rfl, rfl, rfl, hj, hLlo, hLhi, hL⟩ := hrel
              have HL := Lib.hid hL
              clear hL
              by_cases hjl : j < xa.length
              · have hjl' : (j : Int) < (xa.length : Int) := by omega
                by_cases hz : 0 ≤ L
                · obtain ⟨gl, ofl, cl, e, hgl, hcl⟩ := HR2.out.at hjl
                  injection e with e1 e2 e3
                  subst e1 e3
                  have hmem : xa.getD j [] ∈ xa := by rw [List.getD, List.getElem?_eq_getElem hjl]; exact List.getElem_mem hjl
                  have hyl := HSM.out.2.2.2 _ hmem
                  have hfl := HSM.out.2.2.1
                  have hwj : IntKind.i64.wrap ((j : Int) + 1) = (j : Int) + 1 := by rw [IntKind.wrap_i64]; omega
                  have HJ := Lib.hid (show L6.tsum (xa.take (j + 1)) = L6.tsum (xa.take j) + (xa.getD j []).length from by rw [L6.take_snoc hjl, L6.tsum_app]; simp [L6.tsum])
                  have HJL := Lib.hid hjl
                  clear hmem hjl
                  generalize xa.getD j [] = y at *
                  have hwl : IntKind.i64.wrap (L - (y.length : Int)) = L - (y.length : Int) := by rw [IntKind.wrap_i64]; omega
                  have HLE := Lib.hid (HL.out hz)
                  go_wp2_with fail
                  go_roundw
                  case rel => exact ⟨L - (y.length : Int), j + 1, n, rfl, by simp, rfl, HJL.out, by omega, by omega, fun _ => by have := HLE.out; have := HJ.out; omega⟩
                  case measure => have := HJL.out; simp; omega
                · have hz' : ¬ (0 : Int) ≤ L := hz
                  go_wp2_with fail
                  go_roundw
                  case rel => exact ⟨L, k + 1, n, rfl, by simp, rfl, HLT.out, hLlo, hLhi, fun hh => by omega⟩
                  case measure => have := HLT.out; simp; omega
              · have hle : (xa.length : Int) ≤ (j : Int) := by omega
                obtain rfl : j = xa.length := by omega
                have HT := Lib.hid (show xa.take xa.length = xa from List.take_of_length_le (Nat.le_refl _))
                go_wp2_with fail
                go_roundw
                case rel => exact ⟨L, k + 1, n, rfl, by simp, rfl, HLT.out, hLlo, hLhi, fun hh => by have := HL.out hh; rw [HT.out] at this; have := HPP.out; have := HWX.out; omega⟩
                case measure => have := HLT.out; simp; omega
      · have hle : (ls.length : Int) ≤ (k : Int) := by omega
        obtain rfl : k = ls.length := by omega
        have HT := Lib.hid (show L = 3000 - ((L6.weight ls : Nat) : Int) from by have := HL0.out hz; rwa [List.take_of_length_le (Nat.le_refl _)] at this)
        go_wp2_with fail
        go_ret
        exact ⟨true, rfl, fun _ => by have := HT.out; omega, isDrewN6 (Below.refl _ _) _⟩
    · have hz' : ¬ (0 : Int) ≤ L := hz
      by_cases hlt : k < ls.length
      · have hlt' : (k : Int) < (ls.length : Int) := by omega
        go_wp2_with fail
        go_ret
        exact ⟨false, rfl, fun hh => by simp at hh, isDrewN6 (Below.refl _ _) _⟩
      · have hle : (ls.length : Int) ≤ (k : Int) := by omega
        go_wp2_with fail
        go_ret
        exact ⟨false, rfl, fun hh => by simp at hh, isDrewN6 (Below.refl _ _) _⟩
end Go.Proofs.YtpcpaoeajcjoiaaGreatDoor
