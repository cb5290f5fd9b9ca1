/- The walk of isa.forms: a table. -/
import Derived.Test.YtfafdkbnmfpbmaaGreatDoorIsTab
import Derived.Test.YtfafdkbnmfpbmaaGreatDoorRows
import Derived.WalkKit
import Derived.WalkLawsBesides
import Derived.WalkSpells
import Derived.Lib.Hide
import Derived.Below
import Derived.Laws.Tables
import Derived.Laws.Rows
import Derived.Deep.WholeRow
namespace Go.Proofs.YtfafdkbnmfpbmaaGreatDoor
open Go.RowKit
set_option linter.unusedVariables false
set_option linter.unusedSimpArgs false

def Is.fv (f : Is.Form) : List Value := [.string ⟨f.name.toArray⟩, .int .i64 f.shape, .int .u32 f.code, .int .u32 f.three, .int .u32 f.seven]
def Is.cells : Array Value := (Is.forms.flatMap Is.fv).toArray

/-- A row of composite literals, reckoned at once. -/
def buildAll (P : Program) : List Oper → Act → Option Act
  | [], a => some a
  | o :: l, a =>
    match o.op, o.guard with
    | .build t parts, none =>
      match P.built t (parts.map fun (i, x) => (i, a.eval x)).toList with
      | some cells => buildAll P l (a.put o.dst (.agg cells))
      | none => none
    | _, _ => none
theorem wpList_buildAll {P : Program} {ops : Array Oper} {Q : Exit → Act → World → Prop} {rest : List Oper} {w : World} : ∀ (l : List Oper) (a a' : Act), buildAll P l a = some a' → wpList P ops Q rest a' w → wpList P ops Q (l ++ rest) a w
  | [], a, a', h, hr => by simp only [buildAll, Option.some.injEq] at h; subst h; exact hr
  | o :: l, a, a', h, hr => by
    rw [buildAll] at h
    split at h
    · rename_i t parts ho hg
      split at h
      · rename_i cells hc
        refine wpList_build hg t parts ho (by rw [hc]; rfl) ?_
        rw [hc]
        exact wpList_buildAll l _ a' h hr
      · cases h
    · cases h
theorem wpList_buildN {P : Program} {ops : Array Oper} {Q : Exit → Act → World → Prop} {w : World} (l : List Oper) (n : Nat) (a : Act) (hs : (buildAll P (l.take n) a).isSome = true)
    (hr : ∀ a', buildAll P (l.take n) a = some a' → wpList P ops Q (l.drop n) a' w) : wpList P ops Q l a w := by
  obtain ⟨a', ha⟩ := Option.isSome_iff_exists.1 hs
  have := wpList_buildAll (ops := ops) (l.take n) a a' ha (hr a' ha)
  rwa [List.take_append_drop] at this
theorem buildAll_map {β : Type} {P : Program} {l : List Oper} {a a' : Act} (h : buildAll P l a = some a') (f : Act → β) (v : β) (hk : (buildAll P l a).map f = some v) : f a' = v := by
  rw [h] at hk; simpa using hk
def Is.zero : Array Value := (List.replicate 48 [Value.string ⟨#[]⟩, .int .i64 0, .int .u32 0, .int .u32 0, .int .u32 0]).flatten.toArray
theorem wpList_run {P : Program} {ops : Array Oper} {Q : Exit → Act → World → Prop} {rest : List Oper} {w w' : World} {o : Oper} {a : Act} {v : Value} (hg : o.guard = none) (hr : (execOp a.eval o).run P w = .ok (.value v) w') (h : wpList P ops Q rest (a.put o.dst v) w') : wpList P ops Q (o :: rest) a w := by
  refine wpList_plain hg fun K hK => ?_
  unfold Oper.wp
  rw [hr]
  exact hK _ _ h

set_option maxRecDepth 100000 in
theorem forms_any (w : World) : Calls Tryz.prog 64 #[] w fun e w' => e = .returned (.agg Is.cells) ∧ Below w.heap.size w w' := by
  refine calls_of_wp Tryz.func64 rfl ?_
  refine wp_seq (wp_region_lit ?_)
  refine wpList_run (v := .pointer (some ⟨w.heap.size, 0, none⟩)) (w' := w.alloc (.cells Is.zero 143)) rfl (by kernel_rfl) ?_
  refine wpList_nil ?_
  refine wp_seq (wp_region_lit ?_)
  refine wpList_buildN _ 49 _ (by kernel_rfl) fun a' ha => ?_
  have e49 := buildAll_map ha (fun a => a.eval (.tmp 49)) (.agg Is.cells) (by kernel_rfl)
  have e0 := buildAll_map ha (fun a => a.eval (.tmp 0)) (.pointer (some ⟨w.heap.size, 0, none⟩)) (by kernel_rfl)
  have ed := buildAll_map ha (fun a => a.defers) [] (by kernel_rfl)
  have et := buildAll_map ha (fun a => a.tmps.getD 0 undef) (.pointer (some ⟨w.heap.size, 0, none⟩)) (by kernel_rfl)
  refine wpList_store_row rfl 143 (.tmp 0) (.tmp 49) rfl w.heap.size Is.cells e0 e49 143 Is.zero (heap_alloc_last w _) (by kernel_rfl) (by kernel_rfl) (by kernel_rfl) ?_
  refine wpList_nil (wp_ret ?_)
  rw [World.setRow_alloc_new]
  exact ⟨ed, _, results_cell_row rfl _ _ w.heap.size 143 Is.cells (0, 0) _ et (heap_alloc_last w _) Tryz.underlying143 rfl (by kernel_rfl), rfl, (Below.refl _ _).alloc (Nat.le_refl _) _⟩
end Go.Proofs.YtfafdkbnmfpbmaaGreatDoor
