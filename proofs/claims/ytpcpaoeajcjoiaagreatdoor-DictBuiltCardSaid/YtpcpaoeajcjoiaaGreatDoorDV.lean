/- Texts joined, what is not reached left out. -/
import Derived.Test.YtpcpaoeajcjoiaaGreatDoorPJ
import Derived.Lib.SmallJoins
import Derived.ProofKit
import Derived.OpenShut
import Derived.ShutString
import Derived.ChangeOld
import Derived.Test.YtpcpaoeajcjoiaaGreatDoorQDcBt
import Derived.Test.YtpcpaoeajcjoiaaGreatDoorQL6Tab
set_option linter.unusedVariables false
set_option linter.unusedSimpArgs false
namespace Go.Proofs.YtpcpaoeajcjoiaaGreatDoor
open Go.RowKit Kit
open Go.Joins Go.ChangeShapes Go.WideShapes Go.Deep
def Im.Raw.cells (r:Im.Raw):List Value:=[.string ⟨r.name.toArray⟩,.int .i64 r.f,.int .i64 r.n,.int .i64 r.l]
theorem open_word_of {H:Type} {enc:TypeId × Value→H} {w:World} {n:Nat} {cs:List Value} {y:DataW H × List MemPlace} (hl:cs.length = 4)
  (ht:DataW.trod enc Tryz.prog w 0 (fun _=>true) true n 44 cs = some y):∃ x:Im.Raw,cs = x.cells∧x.name.length≤maxLen:=by
 obtain ⟨m,hf⟩:=struct_fields Tryz.underlying44 (by kernel_rfl) (by kernel_rfl) ht hl
 obtain ⟨v0,y0,e0,h0⟩:=hf 0 _ rfl
 obtain ⟨v1,y1,e1,h1⟩:=hf 1 _ rfl
 obtain ⟨v2,y2,e2,h2⟩:=hf 2 _ rfl
 obtain ⟨v3,y3,e3,h3⟩:=hf 3 _ rfl
 obtain ⟨s,k0,_,ws⟩:=DataW.trod_string Tryz.underlying9 h0
 obtain ⟨a,k1,_,w1⟩:=DataW.trod_int Tryz.underlying3 h1
 obtain ⟨b,k2,_,w2⟩:=DataW.trod_int Tryz.underlying3 h2
 obtain ⟨c,k3,_,w3⟩:=DataW.trod_int Tryz.underlying3 h3
 simp only [List.cons.injEq,and_true] at k0 k1 k2 k3
 subst k0 k1 k2 k3
 match cs,hl with
 | [c0,c1,c2,c3],_=>
  simp at e0 e1 e2 e3
  subst e0 e1 e2 e3
  exact ⟨⟨s.data.toList,a,b,c⟩,by simp [Im.Raw.cells],ws⟩
set_option maxRecDepth 100000 in
theorem open_words10 {H:Type} {enc:TypeId × Value→H} {w:World} {b0:Nat} {v:Value} {d:DataW H} {p:List MemPlace}
  (hv:Value.okWide Tryz.prog w .any b0 41 v) (h:DataW.Trod enc Tryz.prog w 0 (fun _=>true) true 41 v d p) :
  ∃ l:List Im.Raw,Rd w 4 v l.length (Im.rowC l)∧(∀ x ∈ l,x.name.length≤maxLen)∧l.length≤maxLen:=
 have hC:Tryz.prog.cellsOf 44 = 4:=by kernel_rfl
 open_rows (spare:=fun _=>true) Im.Raw.cells 4 (by decide) (fun _=>rfl) (fun x=>x.name.length≤maxLen) Tryz.underlying41 hC (fun _=>rfl) (fun n cs y hl ht=>open_word_of hl ht) hv h
end Go.Proofs.YtpcpaoeajcjoiaaGreatDoor
namespace Go.Proofs.YtpcpaoeajcjoiaaGreatDoor
open Go.RowKit Kit
theorem walk_dictBuilt (v:Value) (l:List Im.Raw) (k:Int) (w:World) (h:Rd w 4 v l.length (Im.rowC l)∧(∀ x ∈ l,x.name.length≤maxLen)∧l.length≤maxLen) (g:-9223372036854775808≤k∧k≤9223372036854775807) (hL:laidMetH Tryz.prog Rows.dictBuiltRow.laid w) :
  Calls Tryz.prog 8 #[v,.int .i64 k] w fun e w'=>e = .returned (.bool true)∧Below w.heap.size w w':=
 core_dictBuilt v l k w h.1 h.2.2 h.2.1 (L6.tab_of hL)
end Go.Proofs.YtpcpaoeajcjoiaaGreatDoor
