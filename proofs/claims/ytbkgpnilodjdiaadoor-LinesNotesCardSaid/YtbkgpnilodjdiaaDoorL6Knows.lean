/- What must come: a line; and how great what is parsed is. -/
import Derived.Test.YtbkgpnilodjdiaaDoorL6Copy
import Derived.Test.YtbkgpnilodjdiaaDoorL6Num3
import Derived.Test.YtbkgpnilodjdiaaDoorL6Parse
namespace Go.Proofs.YtbkgpnilodjdiaaDoor
open Go.RowKit Kit
set_option linter.unusedVariables false
set_option linter.unusedSimpArgs false

theorem lnum_any (n : Int) (w : World) : Calls Tryd.prog 16 #[.int .i64 n] w fun e w' => e = .returned (.int .i64 n) ∧ w = w' := by
  go_enter Tryd.func16, Tryd.ntmps16
  go_wp2
  go_ret
  exact ⟨rfl, rfl⟩
theorem L6.labels_len (ws : List (List UInt8)) : (L6.labels ws).length ≤ ws.length := by
  induction ws with
  | nil => simp [L6.labels]
  | cons w t ih => unfold L6.labels; split <;> simp <;> omega
theorem L6.rest_len (ws : List (List UInt8)) : (L6.rest ws).length ≤ ws.length := by
  induction ws with
  | nil => simp [L6.rest]
  | cons w t ih => unfold L6.rest; split <;> simp <;> omega
theorem L6.line_fits {ws : List (List UInt8)} (h : ws.length ≤ 256) : (L6.line ws).fits := by
  have h1 := L6.labels_len ws
  have h2 := L6.rest_len ws
  unfold L6.Line.fits L6.line
  simp only [List.length_tail]
  omega
theorem L6.parseL_fits : ∀ {l : List (List UInt8)} {n : Nat} {acc : List L6.Line}, (∀ x ∈ acc, x.fits) → ∀ x ∈ (L6.parseL n acc l).1, x.fits
  | [], n, acc, h, x, hx => h x hx
  | t :: r, n, acc, h, x, hx => by
    unfold L6.parseL at hx
    split at hx
    · simp at hx
    · rename_i hb
      cases hw : L6.wordsOf t with
      | none => rw [hw] at hx; simp at hx
      | some ws =>
        rw [hw] at hx
        have hwb := (L6.wordsOf_bound hw).1
        refine L6.parseL_fits (fun y hy => ?_) x hx
        rcases List.mem_append.1 hy with hy | hy
        · exact h y hy
        · simp at hy; subst hy; exact L6.line_fits (by omega)
theorem L6.parseL_len : ∀ {l : List (List UInt8)} {n : Nat} {acc : List L6.Line}, (L6.parseL n acc l).1.length ≤ acc.length + l.length
  | [], n, acc => by simp [L6.parseL]
  | t :: r, n, acc => by
    unfold L6.parseL
    split
    · simp
    · cases hw : L6.wordsOf t with
      | none => simp
      | some ws =>
        have := L6.parseL_len (l := r) (n := n + 1) (acc := acc ++ [L6.line ws])
        simp at this ⊢
        omega
theorem L6.parse_fits (s : List UInt8) : ∀ x ∈ (L6.parse s).1, x.fits := by
  unfold L6.parse
  split
  · simp
  · exact L6.parseL_fits (by simp)
theorem L6.parse_len (s : List UInt8) : (L6.parse s).1.length ≤ 32768 := by
  unfold L6.parse
  split
  · simp
  · have := L6.parseL_len (l := L6.split s) (n := 0) (acc := [])
    simp at this
    omega
def L6.known : List UInt8 := [97, 58, 32, 97, 100, 100, 105, 32, 116, 48, 32, 116, 48, 32, 49, 32, 47, 47, 32, 120, 10]
theorem L6.known_parse : L6.parse L6.known = ([⟨[[97]], [97, 100, 100, 105], [[116, 48], [116, 48], [49]]⟩], 0, 0) := by decide +kernel
theorem L6.known_number : L6.number [45, 48, 48, 49, 48] = (-10, true) := by decide +kernel
theorem L6.known_reg : L6.regV [116, 54] = (31, true) := by
  have h1 : L6.digitsV 10 [54] = (6, true) := by decide +kernel
  have h2 : L6.countedV [54] = (6, true) := by
    unfold L6.countedV
    rw [h1]
    unfold Lib.decDigits
    rfl
  unfold L6.regV
  simp only [List.tail_cons, List.headD_cons, h2]
  rfl
set_option maxRecDepth 100000 in
set_option maxHeartbeats 1000000 in
theorem lknows_any (w : World) : Calls Tryd.prog 11 #[] w fun e w' => e = .returned (.bool true) ∧ Below w.heap.size w w' := by
  have CP := Lib.hid (show ∀ W, Calls Tryd.prog 12 #[.string ⟨L6.known.toArray⟩] W fun e w' => ∃ g c vl va, e = .returned (.tuple #[.slice (some ⟨g, 0, none⟩) 1 c, .int .i64 0, .int .i64 0]) ∧
      w'.cell? ⟨g, 0, none⟩ = some vl ∧ w'.cell? ⟨g, 1, none⟩ = some (.string ⟨#[97, 100, 100, 105]⟩) ∧ w'.cell? ⟨g, 2, none⟩ = some va ∧ (∃ A c, vl = .slice A 1 c) ∧ (∃ A c, va = .slice A 3 c) ∧ g < w'.heap.size ∧ Below W.heap.size W w' from fun W => by
    refine (lparse_any L6.known W (by decide)).mono ?_
    rintro e w' ⟨v, rfl, hv, hb⟩
    rw [L6.known_parse] at hv ⊢
    obtain ⟨cs, h1, vl, va, r, rfl, g1, g2, g3⟩ := hv
    have g3 : r = [] := g3
    subst g3
    obtain ⟨hl, q⟩ := h1
    rcases q with ⟨_, h0⟩ | ⟨g, cap, cur, rfl, hbg, hh, hnc, hcm, hcs, htake⟩
    · simp at h0
    · have cell : ∀ j u, [vl, Value.string ⟨#[97, 100, 100, 105]⟩, va][j]? = some u → w'.cell? ⟨g, j, none⟩ = some u := fun j u hu => by
        have hj : j < 3 := by simpa using (List.getElem?_eq_some_iff.1 hu).1
        have h4 : (cur.toList.take (1 * 3))[j]? = some u := by
          have := congrArg (fun l => l[j]?) htake
          simp only [List.length_cons, List.length_nil] at this
          rw [show ((0 + 1) * 3) = 1 * 3 from rfl] at this
          rw [this]; exact hu
        rw [List.getElem?_take, if_pos (by omega)] at h4
        simp only [World.cell?, hh]
        simpa using h4
      obtain ⟨A1, c1, e1⟩ := g1.form
      obtain ⟨A2, c2, e2⟩ := g2.form
      exact ⟨g, cap, vl, va, rfl, cell 0 _ rfl, cell 1 _ rfl, cell 2 _ rfl, ⟨A1, c1, e1⟩, ⟨A2, c2, e2⟩, (Array.getElem?_eq_some_iff.1 hh).1, hb⟩)
  have CN := Lib.hid (show ∀ W, Calls Tryd.prog 17 #[.string ⟨#[45, 48, 48, 49, 48]⟩] W fun e w' => e = .returned (.tuple #[.int .i64 (-10), .bool true]) ∧ W = w' from fun W => by
    have := lnumber_any [45, 48, 48, 49, 48] W (by decide)
    rw [L6.known_number] at this
    exact this)
  have CR := Lib.hid (show ∀ W, Calls Tryd.prog 19 #[.string ⟨#[116, 54]⟩] W fun e w' => e = .returned (.tuple #[.int .i64 31, .bool true]) ∧ Below W.heap.size W w' from fun W => by
    have := lreg_any [116, 54] W (by decide) (.inl (by decide +kernel))
    rw [L6.known_reg] at this
    exact this)
  go_enter Tryd.func11, Tryd.ntmps11
  go_wp2_with (first | (go_at_call 12; refine (CP.out _).mono ?_; rintro e w1 ⟨g, c, vl, va, rfl, c0, c1, c2, ⟨A1, d1, rfl⟩, ⟨A2, d2, rfl⟩, hg, hb1⟩) | (go_at_call 17; refine (CN.out _).mono ?_; rintro e w' ⟨rfl, rfl⟩) | (go_at_call 19; refine (CR.out _).mono ?_; rintro e w2 ⟨rfl, hb2⟩; have c0' := (hb2.cell (p := ⟨g, 0, none⟩) hg).trans c0; have c1' := (hb2.cell (p := ⟨g, 1, none⟩) hg).trans c1; have c2' := (hb2.cell (p := ⟨g, 2, none⟩) hg).trans c2) | (go_at_call 16; refine (lnum_any _ _).mono ?_; rintro e w' ⟨rfl, rfl⟩))
  go_ret
  exact ⟨rfl, hb1.trans (hb2.mono hb1.size)⟩
end Go.Proofs.YtbkgpnilodjdiaaDoor
