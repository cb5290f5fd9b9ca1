/- Texts joined, what is not reached left out. -/
import Derived.Test.YtpcpaoeajcjoiaaGreatDoorRows
import Derived.WalkKit
import Derived.WalkLawsBesides
import Derived.WalkSpells
import Derived.Lib.Hide
import Derived.Below
import Derived.Laws.Tables
import Derived.Laws.Rows
import Derived.Deep.WholeRow
set_option linter.unusedVariables false
set_option linter.unusedSimpArgs false
namespace Go.Proofs.YtpcpaoeajcjoiaaGreatDoor
structure Is.Form where
 name:List UInt8
 shape:Nat
 code:Nat
 three:Nat
 seven:Nat
 deriving DecidableEq,Inhabited
def Is.forms:List Is.Form:=[
 ⟨[108,117,105],0,55,0,0⟩,
 ⟨[97,117,105,112,99],0,23,0,0⟩,
 ⟨[106,97,108],1,111,0,0⟩,
 ⟨[106,97,108,114],2,103,0,0⟩,
 ⟨[98,101,113],3,99,0,0⟩,
 ⟨[98,110,101],3,99,1,0⟩,
 ⟨[98,108,116],3,99,4,0⟩,
 ⟨[98,103,101],3,99,5,0⟩,
 ⟨[98,108,116,117],3,99,6,0⟩,
 ⟨[98,103,101,117],3,99,7,0⟩,
 ⟨[108,98],2,3,0,0⟩,
 ⟨[108,104],2,3,1,0⟩,
 ⟨[108,119],2,3,2,0⟩,
 ⟨[108,98,117],2,3,4,0⟩,
 ⟨[108,104,117],2,3,5,0⟩,
 ⟨[115,98],4,35,0,0⟩,
 ⟨[115,104],4,35,1,0⟩,
 ⟨[115,119],4,35,2,0⟩,
 ⟨[97,100,100,105],2,19,0,0⟩,
 ⟨[115,108,116,105],2,19,2,0⟩,
 ⟨[115,108,116,105,117],2,19,3,0⟩,
 ⟨[120,111,114,105],2,19,4,0⟩,
 ⟨[111,114,105],2,19,6,0⟩,
 ⟨[97,110,100,105],2,19,7,0⟩,
 ⟨[115,108,108,105],5,19,1,0⟩,
 ⟨[115,114,108,105],5,19,5,0⟩,
 ⟨[115,114,97,105],5,19,5,32⟩,
 ⟨[97,100,100],6,51,0,0⟩,
 ⟨[115,117,98],6,51,0,32⟩,
 ⟨[115,108,108],6,51,1,0⟩,
 ⟨[115,108,116],6,51,2,0⟩,
 ⟨[115,108,116,117],6,51,3,0⟩,
 ⟨[120,111,114],6,51,4,0⟩,
 ⟨[115,114,108],6,51,5,0⟩,
 ⟨[115,114,97],6,51,5,32⟩,
 ⟨[111,114],6,51,6,0⟩,
 ⟨[97,110,100],6,51,7,0⟩,
 ⟨[102,101,110,99,101],8,15,0,0⟩,
 ⟨[101,99,97,108,108],7,115,0,0⟩,
 ⟨[101,98,114,101,97,107],7,115,0,0⟩,
 ⟨[109,117,108],6,51,0,1⟩,
 ⟨[109,117,108,104],6,51,1,1⟩,
 ⟨[109,117,108,104,115,117],6,51,2,1⟩,
 ⟨[109,117,108,104,117],6,51,3,1⟩,
 ⟨[100,105,118],6,51,4,1⟩,
 ⟨[100,105,118,117],6,51,5,1⟩,
 ⟨[114,101,109],6,51,6,1⟩,
 ⟨[114,101,109,117],6,51,7,1⟩]
end Go.Proofs.YtpcpaoeajcjoiaaGreatDoor
namespace Go.Proofs.YtpcpaoeajcjoiaaGreatDoor
open Go.RowKit
def Is.fv (f:Is.Form):List Value:=[.string ⟨f.name.toArray⟩,.int .i64 f.shape,.int .u32 f.code,.int .u32 f.three,.int .u32 f.seven]
def Is.cells:Array Value:=(Is.forms.flatMap Is.fv).toArray
def buildAll (P:Program):List Oper→Act→Option Act
 | [],a=>some a
 | o :: l,a=>
  match o.op,o.guard with
  | .build t parts,none=>
   match P.built t (parts.map fun (i,x)=>(i,a.eval x)).toList with
   | some cells=>buildAll P l (a.put o.dst (.agg cells))
   | none=>none
  | _,_=>none
theorem wpList_buildAll {P:Program} {ops:Array Oper} {Q:Exit→Act→World→Prop} {rest:List Oper} {w:World}:∀ (l:List Oper) (a a':Act),buildAll P l a = some a'→wpList P ops Q rest a' w→wpList P ops Q (l ++ rest) a w
 | [],a,a',h,hr=>by simp only [buildAll,Option.some.injEq] at h;subst h;exact hr
 | o :: l,a,a',h,hr=>by
  rw [buildAll] at h
  split at h
  ·rename_i t parts ho hg
   split at h
   ·rename_i cells hc
    refine wpList_build hg t parts ho (by rw [hc];rfl) ?_
    rw [hc]
    exact wpList_buildAll l _ a' h hr
   ·cases h
  ·cases h
theorem wpList_buildN {P:Program} {ops:Array Oper} {Q:Exit→Act→World→Prop} {w:World} (l:List Oper) (n:Nat) (a:Act) (hs:(buildAll P (l.take n) a).isSome = true)
  (hr:∀ a',buildAll P (l.take n) a = some a'→wpList P ops Q (l.drop n) a' w):wpList P ops Q l a w:=by
 obtain ⟨a',ha⟩:=Option.isSome_iff_exists.1 hs
 have:=wpList_buildAll (ops:=ops) (l.take n) a a' ha (hr a' ha)
 rwa [List.take_append_drop] at this
theorem buildAll_map {β:Type} {P:Program} {l:List Oper} {a a':Act} (h:buildAll P l a = some a') (f:Act→β) (v:β) (hk:(buildAll P l a).map f = some v):f a' = v:=by
 rw [h] at hk;simpa using hk
def Is.zero:Array Value:=(List.replicate 48 [Value.string ⟨#[]⟩,.int .i64 0,.int .u32 0,.int .u32 0,.int .u32 0]).flatten.toArray
theorem wpList_run {P:Program} {ops:Array Oper} {Q:Exit→Act→World→Prop} {rest:List Oper} {w w':World} {o:Oper} {a:Act} {v:Value} (hg:o.guard = none) (hr:(execOp a.eval o).run P w = .ok (.value v) w') (h:wpList P ops Q rest (a.put o.dst v) w'):wpList P ops Q (o :: rest) a w:=by
 refine wpList_plain hg fun K hK=>?_
 unfold Oper.wp
 rw [hr]
 exact hK _ _ h
set_option maxRecDepth 100000 in
theorem forms_any (w:World):Calls Tryz.prog 207 #[] w fun e w'=>e = .returned (.agg Is.cells)∧Below w.heap.size w w':=by
 refine calls_of_wp Tryz.func207 rfl ?_
 refine wp_seq (wp_region_lit ?_)
 refine wpList_run (v:=.pointer (some ⟨w.heap.size,0,none⟩)) (w':=w.alloc (.cells Is.zero 304)) rfl (by kernel_rfl) ?_
 refine wpList_nil ?_
 refine wp_seq (wp_region_lit ?_)
 refine wpList_buildN _ 49 _ (by kernel_rfl) fun a' ha=>?_
 have e49:=buildAll_map ha (fun a=>a.eval (.tmp 49)) (.agg Is.cells) (by kernel_rfl)
 have e0:=buildAll_map ha (fun a=>a.eval (.tmp 0)) (.pointer (some ⟨w.heap.size,0,none⟩)) (by kernel_rfl)
 have ed:=buildAll_map ha (fun a=>a.defers) [] (by kernel_rfl)
 have et:=buildAll_map ha (fun a=>a.tmps.getD 0 undef) (.pointer (some ⟨w.heap.size,0,none⟩)) (by kernel_rfl)
 refine wpList_store_row rfl 304 (.tmp 0) (.tmp 49) rfl w.heap.size Is.cells e0 e49 304 Is.zero (heap_alloc_last w _) (by kernel_rfl) (by kernel_rfl) (by kernel_rfl) ?_
 refine wpList_nil (wp_ret ?_)
 rw [World.setRow_alloc_new]
 exact ⟨ed,_,results_cell_row rfl _ _ w.heap.size 304 Is.cells (0,0) _ et (heap_alloc_last w _) Tryz.underlying304 rfl (by kernel_rfl),rfl,(Below.refl _ _).alloc (Nat.le_refl _) _⟩
end Go.Proofs.YtpcpaoeajcjoiaaGreatDoor
