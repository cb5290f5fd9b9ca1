/- Texts joined, what is not reached left out. -/
import Derived.Test.YtpcpaoeajcjoiaaGreatDoorLZ
import Derived.Test.YtpcpaoeajcjoiaaGreatDoorKU
import Derived.Test.YtpcpaoeajcjoiaaGreatDoorQL6Parse
import Derived.Test.YtpcpaoeajcjoiaaGreatDoorKA
import Derived.SizedLaws
import Derived.SliceStrings
set_option linter.unusedVariables false
set_option linter.unusedSimpArgs false
namespace Go.Proofs.YtpcpaoeajcjoiaaGreatDoor
open Go.RowKit Kit
def L6.whole (s:List UInt8):Bool:=decide (L6.wordsOf s = some [s]) && decide (10 ∉ s)
def L6.quoted (s:List UInt8):Bool:=Lib.hasPrefix s [34]
def L6.right (x:L6.Line):Bool:=!(x.labels.any (fun s=>!L6.whole s) || x.labels.any L6.quoted || x.args.any (fun s=>!L6.whole s)) &&
 if x.word = [] then decide (x.args = []) else L6.whole x.word && (!L6.quoted x.word && !L6.label x.word)
def L6.idx (p:List UInt8→Bool) (l:List (List UInt8)):Int:=if l.any p then (l.findIdx p:Nat) else -1
theorem L6.idx_yes {p:List UInt8→Bool} {l:List (List UInt8)} {k:Nat} (hk:k < l.length) (h:p (l.getD k []) = true) (hno:∀ j,j < k→p (l.getD j []) = false):L6.idx p l = k:=by
 have hm:l.getD k [] ∈ l:=by rw [List.getD,List.getElem?_eq_getElem hk];exact List.getElem_mem hk
 have ha:l.any p = true:=List.any_eq_true.2 ⟨_,hm,h⟩
 unfold L6.idx
 rw [if_pos ha,(List.findIdx_eq hk).2 ⟨by simpa [List.getD,hk] using h,fun j hj=>by have:=hno j hj;rw [List.getD,List.getElem?_eq_getElem (by omega)] at this;simpa using this⟩]
theorem L6.idx_no {p:List UInt8→Bool} {l:List (List UInt8)} (hno:∀ j,j < l.length→p (l.getD j []) = false):L6.idx p l = -1:=by
 have ha:¬ l.any p = true:=by
  intro h
  obtain ⟨x,hx,hp⟩:=List.any_eq_true.1 h
  obtain ⟨i,hi,rfl⟩:=List.mem_iff_getElem.1 hx
  have:=hno i hi
  rw [List.getD,List.getElem?_eq_getElem hi] at this
  simp only [Option.getD_some] at this
  rw [hp] at this;cases this
 unfold L6.idx
 rw [if_neg ha]
theorem L6.idx_any (p:List UInt8→Bool) (l:List (List UInt8)):decide ((0:Int)≤L6.idx p l) = l.any p:=by
 unfold L6.idx
 cases h:l.any p
 ·simp
 ·simp
theorem lret_int {a b:Int} (h:a = b):Ending.returned (.int .i64 a) = .returned (.int .i64 b):=by rw [h]
theorem L6.right_labels {x:L6.Line} (h:x.labels.any (fun s=>!L6.whole s) = true):L6.right x = false:=by unfold L6.right;rw [h];rfl
theorem L6.right_quoted {x:L6.Line} (h:x.labels.any L6.quoted = true):L6.right x = false:=by unfold L6.right;rw [h];simp
theorem L6.right_args {x:L6.Line} (h:x.args.any (fun s=>!L6.whole s) = true):L6.right x = false:=by unfold L6.right;rw [h];simp
theorem L6.right_rest {x:L6.Line} (h1:x.labels.any (fun s=>!L6.whole s) = false) (h2:x.labels.any L6.quoted = false) (h3:x.args.any (fun s=>!L6.whole s) = false) :
  L6.right x = if x.word = [] then decide (x.args = []) else L6.whole x.word && (!L6.quoted x.word && !L6.label x.word):=by unfold L6.right;rw [h1,h2,h3];rfl
def L6.tsum (l:List (List UInt8)):Nat:=(l.map List.length).sum
theorem L6.tsum_cons (x:List UInt8) (t:List (List UInt8)):L6.tsum (x :: t) = x.length+L6.tsum t:=by simp [L6.tsum]
def L6.marked (l:List (List UInt8)):List (List UInt8):=l.map (· ++ [58])
def L6.lineWords (x:L6.Line):List (List UInt8):=L6.marked x.labels ++ (if x.word = [] then [] else [x.word]) ++ x.args
def L6.lineText (x:L6.Line):List UInt8:=Lib.join (L6.lineWords x) [32] ++ [10]
def L6.text (ls:List L6.Line):List UInt8:=ls.flatMap L6.lineText
theorem L6.joinTail_len (r:List (List UInt8)):(Lib.joinTail [32] r).length = L6.tsum r+r.length:=by
 induction r with
 | nil=>rfl
 | cons x t ih=>
  have e:Lib.joinTail [32] (x :: t) = 32 :: x ++ Lib.joinTail [32] t:=by simp [Lib.joinTail]
  rw [e,L6.tsum_cons]
  simp [ih];omega
theorem L6.join_len (l:List (List UInt8)):(Lib.join l [32]).length≤L6.tsum l+l.length:=by
 cases l with
 | nil=>simp [Lib.join_nil]
 | cons x t=>
  rw [Lib.join_cons,List.length_append,L6.joinTail_len,L6.tsum_cons]
  simp;omega
theorem app_eq (a b:List UInt8):(⟨a.toArray⟩:ByteArray) ++ ⟨b.toArray⟩ = ⟨(a ++ b).toArray⟩:=by
 apply ByteArray.ext
 rw [ByteArray.data_append]
 simp
theorem OwnS.snoc {base:Nat} {w:World} {v:Value} {l:List (List UInt8)} {y:List UInt8} {n:Nat} (hn:l.length = n) (h:w.ownsRow base 9 1 v (n+1) (L6.sv l ++ [.string ⟨y.toArray⟩])):OwnS base w v (l ++ [y]):=by
 unfold OwnS
 rw [L6.sv_append,List.length_append,hn]
 exact h
theorem OwnS.many {base:Nat} {w:World} {v:Value} {l r:List (List UInt8)} {n m:Nat} (hn:l.length = n) (hm:r.length = m) (h:w.ownsRow base 9 1 v (n+m) (L6.sv l ++ L6.sv r)):OwnS base w v (l ++ r):=by
 unfold OwnS
 rw [L6.sv_append,List.length_append,hn,hm]
 exact h
theorem OwnS.row {base:Nat} {w:World} {v:Value} {l:List (List UInt8)} {n:Nat} (h:OwnS base w v l) (hn:l.length = n):w.ownsRow base 9 1 v n (L6.sv l):=by
 unfold OwnS at h
 rw [hn] at h
 exact h
theorem src_texts {w:World} {v:Value} {l:List (List UInt8)} (h:RdS w v l):Src Tryz.prog 1 61 v l.length (L6.sv l) w:=Rd.src lsrt h (L6.sv_one l)
end Go.Proofs.YtpcpaoeajcjoiaaGreatDoor
namespace Go.Proofs.YtpcpaoeajcjoiaaGreatDoor.Kit
open Go.RowKit Go.ChangeShapes Go.WideShapes Go.Deep
def Fits {H:Type} (P:Program) (t:TypeId) (d:DataW H):Prop:=∀ m ∈ d.weights P t,m≤reachBytes
theorem weightsAll_mem {H:Type} {P:Program} {e:TypeId} {d:DataW H} {m:Nat} (hm:m ∈ d.weights P e):∀ {l:List (DataW H)},d ∈ l→m ∈ DataW.weightsAll P e l
 | x :: r,h=>by
  simp only [DataW.weightsAll,List.mem_append]
  rcases List.mem_cons.1 h with rfl | h
  ·exact .inl hm
  ·exact .inr (weightsAll_mem hm h)
theorem Fits.elem {H:Type} {P:Program} {t e:TypeId} (ht:P.underlying t = some (.slice e)) {elems spare:List (DataW H)} (h:Fits P t (.slice elems spare)) {d:DataW H} (hd:d ∈ elems):Fits P e d:=fun m hm=>
 h m (by simp only [DataW.weights,ht];exact List.mem_cons_of_mem _ (List.mem_append_left _ (weightsAll_mem hm hd)))
theorem Fits.text {H:Type} {P:Program} {t:TypeId} {b:List UInt8} (h:Fits (H:=H) P t (.lit (.string b))):b.length≤reachBytes:=h _ (by simp [DataW.weights])
end Go.Proofs.YtpcpaoeajcjoiaaGreatDoor.Kit
namespace Go.Proofs.YtpcpaoeajcjoiaaGreatDoor
open Go.RowKit Kit Go.ChangeShapes Go.WideShapes Go.Deep
def L6.Texts (l:List (List UInt8)):Prop:=l.length≤140737488351232∧∀ x ∈ l,x.length≤140737488351232
structure L6.In where
 vl:Value
 va:Value
 line:L6.Line
def L6.In.cells (x:L6.In):List Value:=[x.vl,.string ⟨x.line.word.toArray⟩,x.va]
def L6.Line.Small (x:L6.Line):Prop:=L6.Texts x.labels∧x.word.length≤140737488351232∧L6.Texts x.args
def L6.In.ok (w:World) (x:L6.In):Prop:=RdS w x.vl x.line.labels∧RdS w x.va x.line.args∧x.line.Small
def L6.Small (ls:List L6.Line):Prop:=ls.length≤2199023255552∧∀ x ∈ ls,x.Small
end Go.Proofs.YtpcpaoeajcjoiaaGreatDoor
namespace Go.Proofs.YtpcpaoeajcjoiaaGreatDoor
open Go.RowKit Kit
end Go.Proofs.YtpcpaoeajcjoiaaGreatDoor
