/- The walks of label, line. -/
import Derived.Test.YtfafdkbnmfpbmaaGreatDoorL6Words
import Derived.Deep.RegionHeld3
namespace Go.Proofs.YtfafdkbnmfpbmaaGreatDoor
open Go.RowKit Kit
set_option linter.unusedVariables false
set_option linter.unusedSimpArgs false

/-- v reads as these texts. -/
def RdS (w : World) (v : Value) (l : List (List UInt8)) : Prop := Rd w 1 v l.length (L6.sv l)
theorem OwnS.rd {base : Nat} {w : World} {v : Value} {l : List (List UInt8)} (h : OwnS base w v l) : RdS w v l := Rd.of_own h
theorem RdS.kept {w w' : World} {v : Value} {l : List (List UInt8)} (h : RdS w v l) (hb : Below w.heap.size w w') : RdS w' v l := Rd.kept h hb
theorem RdS.cons {w : World} {v : Value} {x : List UInt8} {l : List (List UInt8)} (h : RdS w v (x :: l)) :
    ∃ g off c, v = .slice (some ⟨g, off, none⟩) (l.length + 1) c ∧ l.length + 1 ≤ c ∧ c ≤ maxLen ∧ g < w.heap.size ∧ w.cell? ⟨g, off, none⟩ = some (.string ⟨x.toArray⟩) ∧
      ∃ v2, (∀ (k : IntKind) W, (Instr.slice 47 v (some (.int k 1)) none none).run Tryz.prog W = .ok v2 W) ∧ RdS w v2 l ∧ ∀ g' off' n' c', v2 = .slice (some ⟨g', off', none⟩) n' c' → g' = g := by
  obtain ⟨hl, A, c, rfl, h2, h3, h4⟩ := h
  simp only [List.length_cons] at h2 h4
  obtain ⟨g, off, rfl, hg, hc⟩ := h4 (by omega)
  refine ⟨g, off, c, rfl, h2, h3, hg, by simpa [L6.sv] using hc 0 _ rfl, sliced (some ⟨g, off, none⟩) 1 (l.length + 1) c 1, ?_, ?_, ?_⟩
  · intro k W
    have helem : Tryz.prog.elem 47 = 9 := by simp [Program.elem, Tryz.underlying47]
    have ht : Tryz.prog.underlying 47 = some (.slice (Tryz.prog.elem 47)) := by rw [helem]; exact Tryz.underlying47
    obtain ⟨i, z, hi, hz, hs, hb, hzs⟩ := lsrt.info
    have hsz : (sizeOf (Tryz.prog.elem 47)).run Tryz.prog W = .ok 1 W := by rw [helem]; simp [sizeOf, typeInfo, hi, hs]
    rw [run_slice_l (w := W) 47 _ _ _ ht k 1 (by omega) (by simp <;> omega), hsz]
    simp
  · refine ⟨by simp [L6.sv], ?_⟩
    unfold sliced
    by_cases hcl : c = 1
    · exact ⟨some ⟨g, off, none⟩, c - 1, by rw [if_pos hcl]; simp, by omega, by omega, fun hn => by omega⟩
    · refine ⟨some ⟨g, off + 1, none⟩, c - 1, by rw [if_neg hcl]; simp [addr_add], by omega, by omega, fun hn => ⟨g, off + 1, rfl, hg, fun j u hu => ?_⟩⟩
      have := hc (j + 1) u (by simpa [L6.sv] using hu)
      rw [show off + 1 + j = off + (j + 1) by omega]
      exact this
  · intro g' off' n' c' e
    unfold sliced at e
    by_cases hcl : c = 1
    · rw [if_pos hcl] at e
      injection e with e
      injection e with e
      injection e with e
      exact e.symm
    · rw [if_neg hcl] at e
      simp only [Option.map_some, addr_add] at e
      injection e with e
      injection e with e
      injection e with e
      exact e.symm
theorem RdS.nil_form {w : World} {v : Value} (h : RdS w v []) : ∃ A c, v = .slice A 0 c := Rd.form h

theorem L6.suffix_one (l : List UInt8) (c : UInt8) : Lib.hasSuffix l [c] = (!l.isEmpty && l.getLastD 0 == c) := by
  unfold Lib.hasSuffix List.isSuffixOf
  rcases List.eq_nil_or_concat l with rfl | ⟨t, d, rfl⟩
  · rfl
  · have he : (t ++ [d]).isEmpty = false := by cases t <;> rfl
    have hl : (t ++ [d]).getLastD 0 = d := by simp
    rw [List.concat_eq_append, he, hl, List.reverse_append]
    by_cases h : c = d
    · subst h; simp [List.isPrefixOf]
    · have h1 : (c == d) = false := by simpa using h
      have h2 : (d == c) = false := by simpa using Ne.symm h
      simp [List.isPrefixOf, h1, h2]
theorem llabel_any (l : List UInt8) (w : World) (hm : l.length ≤ maxLen) : Calls Tryz.prog 121 #[.string ⟨l.toArray⟩] w fun e w' => e = .returned (.bool (L6.label l)) ∧ w = w' := by
  have cS := Lib.hid (fun W => Tryz.strings_HasSuffix ⟨l.toArray⟩ ⟨#[58]⟩ W (by have := hm; unfold maxLen at this; simpa [ByteArray.size] using this))
  rw [show Lib.hasSuffix (⟨l.toArray⟩ : ByteArray).data.toList (⟨#[58]⟩ : ByteArray).data.toList = (!l.isEmpty && l.getLastD 0 == 58) from L6.suffix_one l 58] at cS
  unfold maxLen at hm
  by_cases h1 : 1 < l.length
  · have g1 : (1 : Int) < l.length := by omega
    have hne : l.isEmpty = false := by cases l with | nil => simp at h1 | cons a b => rfl
    rw [hne] at cS
    have HL := Lib.hid (show L6.label l = ((l.getLastD 0 == 58) && (l.headD 0 != 34)) by unfold L6.label; simp [h1])
    cases hb : l.getLastD 0 == 58
    · rw [hb] at cS HL
      clear hb hne h1
      go_enter Tryz.func121, Tryz.ntmps121
      go_wp2_with (go_at_call 125; refine (cS.out _).mono ?_; rintro e w' ⟨rfl, rfl⟩)
      go_ret
      exact ⟨lret_bool (by rw [HL.out]; rfl), rfl⟩
    · rw [hb] at cS HL
      have h0 : 0 < l.length := by omega
      have hg := L6.get_data l 0 h0
      have HH := Lib.hid (show (l.headD 0 != 34) = (((((⟨l.toArray⟩ : ByteArray)[0]'h0).toNat : Int)) != 34) by
        rw [hg, Bool.eq_iff_iff, bne_iff_ne, bne_iff_ne]
        cases l with
        | nil => simp at h0
        | cons a b =>
          simp only [List.headD_cons, List.getD_cons_zero]
          refine not_congr ⟨fun h => by rw [h]; rfl, fun h => UInt8.toNat_inj.1 ?_⟩
          have : a.toNat = 34 := by omega
          exact this)
      clear hb hne h1 hg
      go_enter Tryz.func121, Tryz.ntmps121
      go_wp2_with (go_at_call 125; refine (cS.out _).mono ?_; rintro e w' ⟨rfl, rfl⟩)
      go_ret
      exact ⟨lret_bool (by rw [HL.out, HH.out]; rfl), rfl⟩
  · have g1 : ¬ (1 : Int) < l.length := by omega
    have HL := Lib.hid (show L6.label l = false by unfold L6.label; simp [h1])
    clear h1
    go_enter Tryz.func121, Tryz.ntmps121
    go_wp2_with (go_at_call 125; refine (cS.out _).mono ?_; rintro e w' ⟨rfl, rfl⟩)
    go_ret
    exact ⟨lret_bool HL.out.symm, rfl⟩
end Go.Proofs.YtfafdkbnmfpbmaaGreatDoor
