/- Texts joined, what is not reached left out. -/
import Derived.Test.YtpcpaoeajcjoiaaGreatDoorQAsPlain
import Derived.Test.YtpcpaoeajcjoiaaGreatDoorNP
import Derived.Test.YtpcpaoeajcjoiaaGreatDoorQF8Base
import Derived.Test.YtpcpaoeajcjoiaaGreatDoorKC
import Derived.Test.YtpcpaoeajcjoiaaGreatDoorMB
import Derived.Test.YtpcpaoeajcjoiaaGreatDoorKW
import Derived.Test.YtpcpaoeajcjoiaaGreatDoorKU
set_option linter.unusedVariables false
set_option linter.unusedSimpArgs false
namespace Go.Proofs.YtpcpaoeajcjoiaaGreatDoor
structure Im.St where
 out:List L6.Line
 list:Nat
 last:List (List UInt8)
 opn:List UInt8
 asks:List Nat
def Im.start:Im.St:=⟨[],0,List.replicate 32 [],[],[]⟩
def Im.label (list:Nat) (name:List UInt8):List UInt8:=61 :: (Lib.decDigits list ++ name)
def Im.head (list:Nat) (name:List UInt8):List UInt8:=94 :: (Lib.decDigits list ++ name)
def Im.put (x:L6.Line) (S:Im.St):Im.St:=⟨S.out ++ [x],S.list,S.last,S.opn,S.asks⟩
def Im.open_ (s:List UInt8) (S:Im.St):Im.St:=⟨S.out,S.list,S.last,s,S.asks⟩
def Im.at_ (n:Nat) (S:Im.St):Im.St:=⟨S.out,n,S.last,S.opn,S.asks⟩
def Im.keep (k:Nat) (s:List UInt8) (S:Im.St):Im.St:=⟨S.out,S.list,S.last.set k s,S.opn,S.asks⟩
def Im.ask (S:Im.St):Im.St:=⟨S.out,S.list,S.last,S.opn,S.asks ++ [S.out.length]⟩
def Im.end_ (S:Im.St):Im.St:=if S.opn = [] then S else Im.open_ [] (Im.put ⟨[S.opn ++ [36]],[],[]⟩ S)
def Im.begin_ (name:List UInt8) (S:Im.St):Im.St:=Im.put ⟨[Im.label S.list name],[],[]⟩ (Im.open_ (Im.label S.list name) S)
def Im.either (s:List UInt8):List UInt8:=if s = [] then [48] else s
def Im.bucket (name:List UInt8):Nat:=Nm.fold8 (Nm.hashN name)
def Im.bytes (name flags:List UInt8):List (List UInt8):=flags :: Lib.decDigits name.length :: name.map fun c=>Lib.decDigits c.toNat
def Im.defs (list : Nat) (labels : List (List UInt8)) (name flags link : List UInt8) : List L6.Line :=
  [⟨[], As.tAlign, []⟩, ⟨labels ++ [Im.head list name], As.tWord, [Im.either link]⟩, ⟨[], As.tWord, [Im.label list name]⟩, ⟨[], As.tSpan, [Im.label list name, Im.label list name ++ [36]]⟩,
   ⟨[], As.tByte, Im.bytes name flags⟩, ⟨[], As.tAlign, []⟩, ⟨[], As.tWord, [Im.head list name]⟩]
def Im.puts (l:List L6.Line) (S:Im.St):Im.St:=⟨S.out ++ l,S.list,S.last,S.opn,S.asks⟩
def Im.def_ (labels:List (List UInt8)) (name flags:List UInt8) (S:Im.St):Im.St:=
 Im.begin_ name (Im.puts (Im.defs S.list labels name flags (S.last.getD (S.list * 16+Im.bucket name) [])) (Im.keep (S.list * 16+Im.bucket name) (Im.head S.list name) (Im.end_ S)))
def Im.tList:List UInt8:=[108,105,115,116]
def Im.tDef:List UInt8:=[100,101,102]
def Im.tPart:List UInt8:=[112,97,114,116]
def Im.tHeads:List UInt8:=[104,101,97,100,115]
def Im.tHead:List UInt8:=[104,101,97,100]
inductive Im.R where
 | bad (e:Nat)
 | ok (S:Im.St)
def Im.flags (l:L6.Line):Bool:=decide (l.args.length = 2) && ((L6.number (l.args.getD 1 [])).2 && (decide (0≤(L6.number (l.args.getD 1 [])).1) && decide ((L6.number (l.args.getD 1 [])).1≤15)))
def Im.heads (labels:List (List UInt8)):List L6.Line:=⟨labels,As.tWord,[[48]]⟩ :: List.replicate 31 ⟨[],As.tWord,[[48]]⟩
def Im.line (l:L6.Line) (S:Im.St):Im.R:=
 if l.word = Im.tList then (if l.args = [[48]] then .ok (Im.put ⟨l.labels,[],[]⟩ (Im.at_ 0 S)) else if l.args = [[49]] then .ok (Im.put ⟨l.labels,[],[]⟩ (Im.at_ 1 S)) else .bad 40)
 else if l.word = Im.tDef then (if Im.flags l = false then .bad 40 else if Nm.right (l.args.headD []) = false then .bad 41 else .ok (Im.def_ l.labels (l.args.headD []) (l.args.getD 1 []) S))
 else if l.word = Im.tPart then (if l.args.length ≠ 1 then .bad 40 else if Nm.right (l.args.headD []) = false then .bad 41
  else .ok (Im.begin_ (l.args.headD []) (Im.puts [⟨[],As.tAlign,[]⟩,⟨l.labels,As.tWord,[[48]]⟩] (Im.end_ S))))
 else if l.word = Im.tHeads then (if l.args ≠ [] then .bad 40 else .ok (Im.puts (Im.heads l.labels) (Im.ask (Im.end_ S))))
 else if l.word = Im.tHead then .bad 40
 else .ok (Im.put l S)
def Im.run:Im.St→List L6.Line→Im.R
 | S,[]=>.ok S
 | S,l :: r=>match Im.line l S with
  | .bad e=>.bad e
  | .ok S1=>Im.run S1 r
def Im.arg (o:List L6.Line) (j:Nat) (a:List (List UInt8)):List L6.Line:=o.modify j fun x=>⟨x.labels,x.word,a⟩
def Im.fillK (last:List (List UInt8)) (at_:Nat):Nat→List L6.Line→List L6.Line
 | 0,o=>o
 | k+1,o=>Im.arg (Im.fillK last at_ k o) (at_+k) [Im.either (last.getD k [])]
def Im.fillL (last:List (List UInt8)):List Nat→List L6.Line→List L6.Line
 | [],o=>o
 | a :: r,o=>Im.fillL last r (Im.fillK last a 32 o)
def Im.fill (S:Im.St):List L6.Line:=Im.fillL S.last S.asks S.out
structure Im.O where
 bytes:List UInt8
 syms:List (List UInt8 × Nat)
 err:Nat
def Im.ofLines (ls:List L6.Line) (a:Nat):Im.O:=
 if (F8.plain ls).2.2 ≠ 0 then ⟨[],[],(F8.plain ls).2.2⟩
 else if (As.assemble (F8.plain ls).1 a).err ≠ 0 then ⟨[],[],(As.assemble (F8.plain ls).1 a).err⟩
 else ⟨(As.assemble (F8.plain ls).1 a).bytes,(As.assemble (F8.plain ls).1 a).syms,0⟩
def Im.build (s:List UInt8) (a:Nat):Im.O:=
 if (L6.parse s).2.2 ≠ 0 then ⟨[],[],(L6.parse s).2.2⟩
 else match Im.run Im.start (L6.parse s).1 with
  | .bad e=>⟨[],[],e⟩
  | .ok S=>Im.ofLines (Im.fill (Im.end_ S)) a
end Go.Proofs.YtpcpaoeajcjoiaaGreatDoor
namespace Go.Proofs.YtpcpaoeajcjoiaaGreatDoor
open Go.RowKit Kit
theorem iirt:RowTy Tryz.prog 60 3 1 8:=
 ⟨Tryz.underlying60,by
  have h:(Tryz.prog.info? 3).map (fun i=>(i.zero,i.size,i.bytes)) = some (some (.int .i64 0),1,8):=by kernel_rfl
  obtain ⟨i,h1,h2,h3,h4⟩:=info_parts h
  exact ⟨i,_,h1,h2,h3,h4,by kernel_rfl⟩⟩
def Im.askC (l:List Nat):List Value:=List.map (fun n:Nat=>Value.int .i64 (n:Int)) l
def Im.cells (S:Im.St) (vo va:Value):List Value:=vo :: .int .i64 (S.list:Int) :: (S.last.map (fun s=>Value.string ⟨s.toArray⟩) ++ [.string ⟨S.opn.toArray⟩,va])
theorem Im.cells_eq (S:Im.St) (vo va:Value):Im.cells S vo va = vo :: .int .i64 (S.list:Int) :: (S.last.map (fun s=>Value.string ⟨s.toArray⟩) ++ [.string ⟨S.opn.toArray⟩,va]):=rfl
structure Im.Mk (F:Nat→Prop) (W:World) (gm:Nat) (S:Im.St):Prop where
 obj:∃ vo va cs,Bk W gm 124 (Im.cells S vo va).toArray∧W.ownsRow 0 105 3 vo S.out.length cs∧F8.Ls (As.Rs F W) S.out cs∧W.ownsRow 0 3 1 va S.asks.length (Im.askC S.asks)∧(∀ k,vo.ownBlock = some k→F k)∧(∀ k,va.ownBlock = some k→F k)
 last:S.last.length = 32
 list:S.list≤1
 gm:F gm
 lt:∀ k,F k→k < W.heap.size
def Im.To (F:Nat→Prop) (w:World) (gm:Nat) (S:Im.St) (w':World):Prop:=∃ F',Im.Mk F' w' gm S∧Step F w F' w'
theorem Im.To.refl {F:Nat→Prop} {w:World} {gm:Nat} {S:Im.St} (h:Im.Mk F w gm S):Im.To F w gm S w:=⟨F,h,Step.refl F w⟩
theorem Im.To.after {F F1:Nat→Prop} {w w1 w2:World} {gm:Nat} {S:Im.St} (h:Im.To F1 w1 gm S w2) (a:Step F w F1 w1):Im.To F w gm S w2:=by
 obtain ⟨F2,h1,h2⟩:=h
 exact ⟨F2,h1,a.trans h2⟩
theorem Im.Mk.kept {F:Nat→Prop} {W W':World} {gm:Nat} {S:Im.St} (h:Im.Mk F W gm S) (hb:Below W.heap.size W W'):Im.Mk F W' gm S:=by
 obtain ⟨vo,va,cs,h1,h2,h3,h4,h5,h6⟩:=h.obj
 exact ⟨⟨vo,va,cs,h1.kept hb,own_kept h2 hb,h3.map fun u l hu=>hu.fr (Fr.of_below hb) (fun _ _ h=>h),own_kept h4 hb,h5,h6⟩,h.last,h.list,h.gm,fun k hk=>Nat.lt_of_lt_of_le (h.lt k hk) hb.size⟩
theorem Im.To.kept {F:Nat→Prop} {w w1 w2:World} {gm:Nat} {S:Im.St} (h:Im.To F w gm S w1) (hb:Below w1.heap.size w1 w2):Im.To F w gm S w2:=by
 obtain ⟨F1,h1,h2⟩:=h
 exact ⟨F1,h1.kept hb,h2.trans (Step.of_below hb)⟩
theorem Im.Mk.set {F:Nat→Prop} {W:World} {gm:Nat} {S S':Im.St} (h:Im.Mk F W gm S) (i:Nat) (u:Value) (ho:S'.out = S.out) (ha:S'.asks = S.asks) (hl:S'.last.length = 32) (hli:S'.list≤1)
  (hc:∀ vo va,(Im.cells S vo va).set i u = Im.cells S' vo va):Im.To F W gm S' (W.setCell ⟨gm,i,none⟩ u):=by
 obtain ⟨vo,va,cs,h1,h2,h3,h4,h5,h6⟩:=h.obj
 have hs:=But.setCell W gm i u
 have hf:Fr F W (W.setCell ⟨gm,i,none⟩ u):=Fr.of_but hs h.gm
 have hb:=h1.set i u
 rw [List.setIfInBounds_toArray,hc] at hb
 refine ⟨F,⟨⟨vo,va,cs,hb,?_,?_,?_,h5,h6⟩,hl,hli,h.gm,fun k hk=>?_⟩,hf,fun k hk=>.inl hk⟩
 ·rw [ho];exact own_but h2 h1 (by decide) hs
 ·rw [ho];exact h3.map fun u l hu=>hu.fr hf (fun _ _ h=>h)
 ·rw [ha];exact own_but h4 h1 (by decide) hs
 ·have:=h.lt k hk;simpa [World.setCell] using this
theorem Im.cell_out (S:Im.St) (vo va:Value):(Im.cells S vo va).toArray[0]? = some vo:=rfl
theorem Im.cell_list (S:Im.St) (vo va:Value):(Im.cells S vo va).toArray[1]? = some (.int .i64 (S.list:Int)):=rfl
theorem Im.cell_last (S:Im.St) (vo va:Value) (hl:S.last.length = 32) (k:Nat) (hk:k < 32):(Im.cells S vo va).toArray[2+k]? = some (.string ⟨(S.last.getD k []).toArray⟩):=by
 rw [Im.cells_eq,List.getElem?_toArray,show 2+k = (k+1)+1 by omega,List.getElem?_cons_succ,List.getElem?_cons_succ,List.getElem?_append_left (by rw [List.length_map];omega)]
 simp [List.getD,List.getElem?_eq_getElem (show k < S.last.length by omega)]
theorem Im.cell_open (S:Im.St) (vo va:Value) (hl:S.last.length = 32):(Im.cells S vo va).toArray[34]? = some (.string ⟨S.opn.toArray⟩):=by
 rw [Im.cells_eq,List.getElem?_toArray,List.getElem?_cons_succ,List.getElem?_cons_succ,List.getElem?_append_right (by rw [List.length_map];omega),List.length_map,hl];rfl
theorem Im.cell_asks (S:Im.St) (vo va:Value) (hl:S.last.length = 32):(Im.cells S vo va).toArray[35]? = some va:=by
 rw [Im.cells_eq,List.getElem?_toArray,List.getElem?_cons_succ,List.getElem?_cons_succ,List.getElem?_append_right (by rw [List.length_map];omega),List.length_map,hl];rfl
theorem Im.Mk.toList {F:Nat→Prop} {W:World} {gm:Nat} {S:Im.St} (h:Im.Mk F W gm S) (n:Nat) (hn:n≤1):Im.To F W gm (Im.at_ n S) (W.setCell ⟨gm,1,none⟩ (.int .i64 (n:Int))):=
 h.set 1 _ rfl rfl h.last hn fun vo va=>rfl
theorem Im.Mk.toOpen {F:Nat→Prop} {W:World} {gm:Nat} {S:Im.St} (h:Im.Mk F W gm S) (s:List UInt8):Im.To F W gm (Im.open_ s S) (W.setCell ⟨gm,34,none⟩ (.string ⟨s.toArray⟩)):=
 h.set 34 _ rfl rfl h.last h.list fun vo va=>by
  rw [Im.cells_eq,Im.cells_eq,List.set_cons_succ,List.set_cons_succ,List.set_append_right _ _ (by rw [List.length_map,h.last];exact Nat.le_refl _),List.length_map,h.last]
  rfl
theorem Im.Mk.toKeep {F:Nat→Prop} {W:World} {gm:Nat} {S:Im.St} (h:Im.Mk F W gm S) (k:Nat) (hk:k < 32) (s:List UInt8):Im.To F W gm (Im.keep k s S) (W.setCell ⟨gm,2+k,none⟩ (.string ⟨s.toArray⟩)):=
 h.set (2+k) _ rfl rfl (by show (S.last.set k s).length = 32;rw [List.length_set];exact h.last) h.list fun vo va=>by
  rw [Im.cells_eq,Im.cells_eq,show 2+k = (k+1)+1 by omega,List.set_cons_succ,List.set_cons_succ,List.set_append_left _ _ (by rw [List.length_map,h.last];exact hk)]
  show _ :: _ :: (_ ++ _) = _ :: _ :: (List.map _ (S.last.set k s) ++ _)
  rw [List.map_set]
  rfl
structure Im.Seen (W:World) (gm:Nat) (S:Im.St) (A:Option Addr) (c:Nat):Prop where
 out:W.cell? ⟨gm,0,none⟩ = some (.slice A S.out.length c)
 list:W.cell? ⟨gm,1,none⟩ = some (.int .i64 (S.list:Int))
 last:∀ k,k < 32→W.cell? ⟨gm,2+k,none⟩ = some (.string ⟨(S.last.getD k []).toArray⟩)
 opn:W.cell? ⟨gm,34,none⟩ = some (.string ⟨S.opn.toArray⟩)
 f:∀ i,W.frozen? ⟨gm,i,none⟩ = false
theorem Im.Mk.seen {F:Nat→Prop} {W:World} {gm:Nat} {S:Im.St} (h:Im.Mk F W gm S):∃ A c,Im.Seen W gm S A c:=by
 obtain ⟨vo,va,cs,h1,h2,h3,h4,h5,h6⟩:=h.obj
 obtain ⟨A,c,rfl⟩:=(Rd.of_own h2).form
 exact ⟨A,c,(h1.cell 0).trans (Im.cell_out S _ va),(h1.cell 1).trans (Im.cell_list S _ va),fun k hk=>(h1.cell _).trans (Im.cell_last S _ va h.last k hk),(h1.cell _).trans (Im.cell_open S _ va h.last),fun i=>h1.free i⟩
theorem Im.Mk.room {F:Nat→Prop} {W Wa:World} {gm:Nat} {S:Im.St} (h:Im.Mk F W gm S) (hb:Below W.heap.size W Wa) (x:L6.Line) {vl va:Value} (hl:RdS Wa vl x.labels) (hlc:As.Clear F vl) (ha:RdS Wa va x.args) (hac:As.Clear F va) :
  ∃ A c cs,Wa.cell? ⟨gm,0,none⟩ = some (.slice A S.out.length c)∧(∀ W',Below Wa.heap.size Wa W'→W'.cell? ⟨gm,0,none⟩ = some (.slice A S.out.length c)) ∧
   (Wa.alloc (.cells #[vl,.string ⟨x.word.toArray⟩,va] 105)).ownsRow 0 105 3 (.slice A S.out.length c) S.out.length cs ∧
   Src Tryz.prog 3 33 (.slice (some ⟨Wa.heap.size,0,none⟩) 1 1) 1 [vl,.string ⟨x.word.toArray⟩,va] (Wa.alloc (.cells #[vl,.string ⟨x.word.toArray⟩,va] 105)) ∧
   ∀ v' w',w'.ownsRow 0 105 3 v' (S.out.length+1) (cs ++ [vl,.string ⟨x.word.toArray⟩,va])→(Wa.alloc (.cells #[vl,.string ⟨x.word.toArray⟩,va] 105)).grownBy w' (Value.slice A S.out.length c).ownBlock→F8.Where (Value.slice A S.out.length c) v' (Wa.alloc (.cells #[vl,.string ⟨x.word.toArray⟩,va] 105)).heap.size →
    (∃ A' c',v' = .slice A' (S.out.length+1) c')∧w'.cell? ⟨gm,0,none⟩ = some (.slice A S.out.length c)∧w'.frozen? ⟨gm,0,none⟩ = false∧Hid (Im.To F W gm (Im.put x S) (w'.setCell ⟨gm,0,none⟩ v')):=by
 obtain ⟨vo,vk,cs,h1,h2,h3,h4,h5,h6⟩:=h.obj
 obtain ⟨A,c,rfl⟩:=(Rd.of_own h2).form
 have hal:Below Wa.heap.size Wa (Wa.alloc (.cells #[vl,.string ⟨x.word.toArray⟩,va] 105)):=(Below.refl _ _).alloc (Nat.le_refl _) _
 have hal2:Below W.heap.size W (Wa.alloc (.cells #[vl,.string ⟨x.word.toArray⟩,va] 105)):=hb.trans (hal.mono hb.size)
 obtain ⟨A1,c1,e1⟩:=hl.form
 obtain ⟨A2,c2,e2⟩:=ha.form
 refine ⟨A,c,cs,((h1.kept hb).cell 0).trans (Im.cell_out S _ vk),fun W' hb'=>(((h1.kept hb).kept hb').cell 0).trans (Im.cell_out S _ vk),own_kept h2 hal2,?_,fun v' w' ho hg hv=>?_⟩
 ·have hbk:=Bk.fresh Wa 105 #[vl,.string ⟨x.word.toArray⟩,va]
  refine Rd.src llrt ⟨rfl,some ⟨Wa.heap.size,0,none⟩,1,rfl,Nat.le_refl _,by unfold maxLen;omega,fun _=>⟨_,0,rfl,hbk.lt,fun j u hu=>?_⟩⟩ (fun u hu=>by
   simp only [List.mem_cons,List.not_mem_nil,or_false] at hu
   rcases hu with rfl | rfl | rfl
   ·subst e1;rfl
   ·rfl
   ·subst e2;rfl)
  rw [Nat.zero_add,hbk.cell j]
  simpa using hu
 ·have hk2:=own_kept h2 hal2
  have hgm2:=h1.kept hal2
  have hgm1:Bk w' gm 124 _:=(hg.block gm hgm2.lt (fun e=>own_bk_ne hk2 hgm2 (by decide) e.symm)).trans hgm2
  have hs:=But.setCell w' gm 0 v'
  have f1:Fr F W (Wa.alloc (.cells #[vl,.string ⟨x.word.toArray⟩,va] 105)):=Fr.of_below hal2
  have f2:Fr F (Wa.alloc (.cells #[vl,.string ⟨x.word.toArray⟩,va] 105)) w':=Fr.of_grown hg h5
  have f3:Fr F w' (w'.setCell ⟨gm,0,none⟩ v'):=Fr.of_but hs h.gm
  have f23:Fr F (Wa.alloc (.cells #[vl,.string ⟨x.word.toArray⟩,va] 105)) (w'.setCell ⟨gm,0,none⟩ v'):=f2.trans f3 (fun k hk=>.inl hk)
  have hG:∀ g,g < (Wa.alloc (.cells #[vl,.string ⟨x.word.toArray⟩,va] 105)).heap.size→(F g ∨ v'.ownBlock = some g)→F g:=fun g hlt hg'=>hg'.elim id (fun e=>(hv g e).elim (h5 g) (fun e=>absurd hlt (by omega)))
  refine ⟨(Rd.of_own ho).form,(hgm1.cell 0).trans (Im.cell_out S _ vk),hgm1.free 0,Lib.hid ⟨fun k=>F k ∨ v'.ownBlock = some k,⟨⟨v',vk,cs ++ [vl,.string ⟨x.word.toArray⟩,va],?_,?_,?_,?_,fun k hk=>.inr hk,fun k hk=>.inl (h6 k hk)⟩,h.last,h.list,.inl h.gm,fun k hk=>?_⟩,f1.trans f23 (fun k hk=>.inl hk),fun k hk=>?_⟩⟩
  ·have hbs:=hgm1.set 0 v'
   rw [List.setIfInBounds_toArray] at hbs
   exact hbs
  ·show World.ownsRow _ 0 _ 3 _ (S.out ++ [x]).length _
   rw [List.length_append,List.length_cons,List.length_nil,Nat.zero_add]
   exact own_but ho hgm1 (by decide) hs
  ·exact F8.Ls.snoc (x:=x) (As.Rs.fr ⟨hl.kept hal,hlc⟩ f23 hG) (As.Rs.fr ⟨ha.kept hal,hac⟩ f23 hG) (h3.map fun u l hu=>(hu.fr f1 (G:=F) (fun _ _ h=>h)).fr f23 hG)
  ·exact own_but (own_other (by decide) hk2 hg (own_kept h4 hal2)) hgm1 (by decide) hs
  ·have e:(w'.setCell ⟨gm,0,none⟩ v').heap.size = w'.heap.size:=by simp [World.setCell]
   rw [e]
   rcases hk with hk | hk
   ·exact Nat.lt_of_lt_of_le (h.lt k hk) (Nat.le_trans hal2.size hg.size)
   ·exact own_lt' ho hk
  ·rcases hk with hk | hk
   ·exact .inl hk
   ·rcases hv k hk with e | e
    ·exact .inl (h5 k e)
    ·exact .inr (Nat.le_trans hal2.size e)
theorem OwnS.new_clear {F:Nat→Prop} {w w':World} {v:Value} {l:List (List UInt8)} (h:OwnS w.heap.size w' v l) (hF:∀ k,F k→k < w.heap.size):As.Clear F v:=fun g off n c e hn hg=>by
 rcases h.2 with ⟨rfl,_⟩ | ⟨g',cap,cur,rfl,hB,_⟩
 ·cases e
 ·injection e with e1 _ _
  injection e1 with e1
  injection e1 with e1 _
  have:=hF g hg
  omega
theorem As.Clear.nil (F:Nat→Prop):As.Clear F (.slice none 0 0):=fun g off n c e=>by cases e
set_option maxRecDepth 100000 in
set_option maxHeartbeats 4000000 in
theorem iput_any {F:Nat→Prop} {w:World} {gm:Nat} {S:Im.St} (h:Im.Mk F w gm S) (vl va:Value) (x:L6.Line) (hl:RdS w vl x.labels) (ha:As.Rs F w va x.args) (hn:x.labels.length≤1000000) (ho:S.out.length≤1000000) :
  Calls Tryz.prog 105 #[.pointer (some ⟨gm,0,none⟩),vl,.string ⟨x.word.toArray⟩,va] w fun e w'=>e = .returned (.tuple #[])∧Im.To F w gm (Im.put x S) w':=by
 have HM0:=Lib.hid h
 have HA0:=Lib.hid ha
 obtain ⟨A0,c0,hsee⟩:=h.seen
 have k0:=hsee.out
 have f0:=hsee.f 0
 have CC:=Lib.hid (fun W (hW:Below w.heap.size w W)=>lclone_any vl x.labels W (hl.kept hW) (by omega))
 obtain ⟨A1,c1,rfl⟩:=hl.form
 obtain ⟨A2,c2,rfl⟩:=Rd.form ha.1
 have HLo:=Lib.hid (show (S.out.length+1) * 64≤140737488355328∧S.out.length+1≤maxLen from by unfold maxLen;omega)
 have HROOM:=Lib.hid (fun (w2:World) (v2:Value) (hb:Below w.heap.size w w2) (h1:RdS w2 v2 x.labels) (h2:As.Clear F v2)=>HM0.out.room hb x h1 h2 (HA0.out.1.kept hb) HA0.out.2)
 have hkk:∀ W',Below w.heap.size w W'→W'.cell? ⟨gm,0,none⟩ = some (.slice A0 S.out.length c0):=fun W' hb=>by
  obtain ⟨vo,va',cs,q1,_⟩:=HM0.out.obj
  have e:=(q1.cell 0).trans (Im.cell_out S vo va')
  rw [k0] at e
  injection e with e
  subst e
  exact ((q1.kept hb).cell 0).trans (Im.cell_out S _ _)
 have HKK:=Lib.hid hkk
 clear h ha hl hn ho hsee hkk
 obtain ⟨xl,xw,xa⟩:=x
 dsimp only at *
 go_enter Tryz.func105,Tryz.ntmps105
 go_wp2_with fail
 have d0:=HKK.out _ (Below.refl w.heap.size w).drew
 go_region_law (first
  | (go_simp;go_at_call 165;refine (CC.out _ (Below.refl _ _).drew).mono ?_;rintro e w2 ⟨v2,rfl,hv2,hb2⟩;have HB2:=Lib.hid (show Below w.heap.size w w2 from (Below.refl w.heap.size w).drew.trans hb2);obtain ⟨A3,c3,hf3⟩:=hv2.form;subst hf3;obtain ⟨A,c,cs,q0,qk,qo,qs,qput⟩:=HROOM.out w2 _ HB2.out hv2.rd (OwnS.new_clear hv2 HM0.out.lt);have e0:=HKK.out w2 HB2.out;have qq:=qk _ ((Below.refl w2.heap.size w2).alloc (Nat.le_refl _) (.cells #[.slice A3 xl.length c3,.string ⟨xw.toArray⟩,.slice A2 xa.length c2] 105));have HO:=Lib.hid qo;have HS:=Lib.hid qs;have HP:=Lib.hid qput;have hAA:=q0.symm.trans e0;injection hAA with hAA;injection hAA with hA1 _ hA3;subst hA1 hA3;clear qo qs qput hv2 hb2 qk)
  | (refine step_appendRB (by rfl) _ _ _ _ (by rfl) llrt (by decide) 0 (.slice A S.out.length c) (by rfl) S.out.length cs HO.out _ (by rfl) 1 [.slice A3 xl.length c3,.string ⟨xw.toArray⟩,.slice A2 xa.length c2] HS.out HLo.out.1 HLo.out.2 (Nat.zero_le _) ?_;intro v5 w5 ho5 hb5 hg5 hv5;obtain ⟨⟨A5,c5,rfl⟩,m0,m1,HM⟩:=HP.out v5 w5 ho5 hg5 hv5))
 all_goals go_wp2_with fail
 all_goals go_end0
 all_goals exact ⟨rfl,HM.out⟩
def Im.orD (a b:List UInt8):List UInt8:=if a = [] then b else a
theorem ior_any (a b:List UInt8) (w:World):Calls Tryz.prog 169 #[.string ⟨a.toArray⟩,.string ⟨b.toArray⟩] w fun e w'=>e = .returned (.string ⟨(Im.orD a b).toArray⟩)∧w = w':=by
 by_cases h:a = []
 ·subst h
  go_enter Tryz.func169,Tryz.ntmps169
  go_wp2
  go_ret
  exact ⟨rfl,rfl⟩
 ·have HV:=Lib.hid (show Im.orD a b = a from if_neg h)
  have e1:(a == ([]:List UInt8)) = false:=by simpa using h
  have e2:(!a == ([]:List UInt8)) = true:=by rw [e1];rfl
  have e3:a.isEmpty = false:=by simpa using h
  clear h
  go_enter Tryz.func169,Tryz.ntmps169
  go_wp2
  go_ret
  exact ⟨by rw [HV.out];rfl,rfl⟩
theorem ieither_any (a:List UInt8) (w:World):Calls Tryz.prog 109 #[.string ⟨a.toArray⟩] w fun e w'=>e = .returned (.string ⟨(Im.either a).toArray⟩)∧w = w':=by
 have CO:=Lib.hid (fun W=>ior_any a [48] W)
 have HV:=Lib.hid (show Im.orD a [48] = Im.either a from rfl)
 go_enter Tryz.func109,Tryz.ntmps109
 go_wp2_with (go_at_call 169;refine (CO.out _).mono ?_;rintro e w' ⟨rfl,rfl⟩)
 go_ret
 exact ⟨by rw [HV.out];rfl,rfl⟩
theorem Im.dec_len (n:Nat) (h:n < 100):(Lib.decDigits n).length≤101:=by have:=F8.dec_len n;omega
set_option maxRecDepth 20000 in
theorem ilabel_any (n:Nat) (s:List UInt8) (w:World) (hn:n < 100) (hs:s.length≤1000000000):Calls Tryz.prog 25 #[.int .i64 (n:Int),.string ⟨s.toArray⟩] w fun e w'=>e = .returned (.string ⟨(Im.label n s).toArray⟩)∧Below w.heap.size w w':=by
 have CI:=Lib.hid (fun W=>litoa_any n W (by omega) (.inl hn))
 have hmax:max (n:Int) 0 = (n:Int):=by omega
 have hdl:=Im.dec_len n hn
 have HV:=Lib.hid (show Im.label n s = 61 :: (Lib.decDigits n ++ s) from rfl)
 generalize Lib.decDigits n = D at *
 have hc1:(⟨#[61]⟩:ByteArray) ++ ⟨D.toArray⟩ = ⟨(61 :: D).toArray⟩:=app_eq [61] D
 have hc2:(⟨(61 :: D).toArray⟩:ByteArray) ++ ⟨s.toArray⟩ = ⟨((61 :: D) ++ s).toArray⟩:=app_eq (61 :: D) s
 have hc3:(⟨#[61]⟩:ByteArray) ++ ⟨D.toArray⟩ ++ ⟨s.toArray⟩ = ⟨((61 :: D) ++ s).toArray⟩:=by rw [hc1,hc2]
 have hl1:¬ 9223372036854775807 < 1+D.length:=by omega
 have hl2:¬ 9223372036854775807 < D.length+1:=by omega
 have hl3:¬ 9223372036854775807 < 1+D.length+s.length:=by omega
 have hl4:¬ 9223372036854775807 < D.length+1+s.length:=by omega
 clear hn hs hdl
 go_enter Tryz.func25,Tryz.ntmps25
 go_wp2_with (go_at_call 61;refine (CI.out _).mono ?_;rintro e w1 ⟨rfl,hb1⟩)
 go_ret
 exact ⟨by rw [HV.out];first | rfl | (simp only [hc1,hc2,List.cons_append]),hb1⟩
theorem Im.rd_one (w:World) (s:List UInt8):RdS (w.alloc (.cells #[.string ⟨s.toArray⟩] 9)) (.slice (some ⟨w.heap.size,0,none⟩) 1 1) [s]:=by
 have hbk:=Bk.fresh w 9 #[.string ⟨s.toArray⟩]
 refine ⟨rfl,some ⟨w.heap.size,0,none⟩,1,rfl,Nat.le_refl _,by unfold maxLen;omega,fun _=>⟨_,0,rfl,hbk.lt,fun j u hu=>?_⟩⟩
 rw [Nat.zero_add,hbk.cell j]
 simpa [L6.sv] using hu
theorem Im.rd_two (w:World) (s t:List UInt8):RdS (w.alloc (.cells #[.string ⟨s.toArray⟩,.string ⟨t.toArray⟩] 9)) (.slice (some ⟨w.heap.size,0,none⟩) 2 2) [s,t]:=by
 have hbk:=Bk.fresh w 9 #[.string ⟨s.toArray⟩,.string ⟨t.toArray⟩]
 refine ⟨rfl,some ⟨w.heap.size,0,none⟩,2,rfl,Nat.le_refl _,by unfold maxLen;omega,fun _=>⟨_,0,rfl,hbk.lt,fun j u hu=>?_⟩⟩
 rw [Nat.zero_add,hbk.cell j]
 simpa [L6.sv] using hu
theorem Im.clear_new {F:Nat→Prop} {w:World} (hF:∀ k,F k→k < w.heap.size) (n c:Nat):As.Clear F (.slice (some ⟨w.heap.size,0,none⟩) n c):=fun g off n c e hn hg=>by
 injection e with e _ _
 injection e with e
 injection e with e _
 have:=hF g hg
 omega
theorem Im.rs_nil (F:Nat→Prop) (w:World):As.Rs F w (.slice none 0 0) []:=⟨⟨rfl,none,0,rfl,Nat.le_refl _,Nat.zero_le _,fun h=>absurd h (by simp)⟩,As.Clear.nil F⟩
set_option maxRecDepth 20000 in
set_option maxHeartbeats 4000000 in
theorem iend_any {F:Nat→Prop} {w:World} {gm:Nat} {S:Im.St} (h:Im.Mk F w gm S) (ho:S.out.length≤1000000) (hl:S.opn.length≤1000000000) :
  Calls Tryz.prog 52 #[.pointer (some ⟨gm,0,none⟩)] w fun e w'=>e = .returned (.tuple #[])∧Im.To F w gm (Im.end_ S) w':=by
 have HM0:=Lib.hid h
 obtain ⟨A0,c0,hsee⟩:=h.seen
 have k3:=hsee.opn
 by_cases hn:S.opn = []
 ·have HV:=Lib.hid (show Im.end_ S = S from if_pos hn)
  rw [hn] at k3
  clear h hsee hn
  go_enter Tryz.func52,Tryz.ntmps52
  go_wp2_with fail
  go_end0
  exact ⟨rfl,by rw [HV.out];exact Im.To.refl HM0.out⟩
 ·have HV:=Lib.hid (show Im.end_ S = Im.open_ [] (Im.put ⟨[S.opn ++ [36]],[],[]⟩ S) from if_neg hn)
  have e1:(S.opn != ([]:List UInt8)) = true:=by simpa using hn
  have e2:(!S.opn == ([]:List UInt8)) = true:=by simpa using hn
  have e3:S.opn.isEmpty = false:=by simpa using hn
  have hc:(⟨S.opn.toArray⟩:ByteArray) ++ ⟨#[36]⟩ = ⟨(S.opn ++ [36]).toArray⟩:=app_eq S.opn [36]
  have hl1:¬ 9223372036854775807 < S.opn.length+1:=by omega
  have hal:Below w.heap.size w (w.alloc (.cells #[.string ⟨(S.opn ++ [36]).toArray⟩] 9)):=(Below.refl _ _).alloc (Nat.le_refl _) _
  have CP:=Lib.hid (iput_any (h.kept hal) _ _ ⟨[S.opn ++ [36]],[],[]⟩ (Im.rd_one w (S.opn ++ [36])) (Im.rs_nil F _) (by simp) ho)
  have HAL:=Lib.hid hal
  clear h hsee hn hal
  generalize S.opn = o at *
  generalize o ++ [36] = o2 at *
  go_enter Tryz.func52,Tryz.ntmps52
  go_wp2_with fail
  go_at_call 105
  refine CP.out.mono ?_
  rintro e w2 ⟨rfl,F2,m2,s2⟩
  have HT2:=Lib.hid (m2.toOpen [])
  obtain ⟨A2,c2,hs2⟩:=m2.seen
  have q3:=hs2.opn
  have f3:=hs2.f 34
  have HS2:=Lib.hid s2
  clear m2 s2 hs2
  go_wp2_with fail
  go_end0
  exact ⟨rfl,by rw [HV.out];exact (HT2.out.after HS2.out).after (Step.of_below HAL.out)⟩
set_option maxRecDepth 20000 in
set_option maxHeartbeats 4000000 in
theorem ibegin_any {F:Nat→Prop} {w:World} {gm:Nat} {S:Im.St} (h:Im.Mk F w gm S) (s:List UInt8) (hs:s.length≤1000000000) (ho:S.out.length≤1000000) :
  Calls Tryz.prog 108 #[.pointer (some ⟨gm,0,none⟩),.string ⟨s.toArray⟩] w fun e w'=>e = .returned (.tuple #[])∧Im.To F w gm (Im.begin_ s S) w':=by
 have HM0:=Lib.hid h
 obtain ⟨A0,c0,hsee⟩:=h.seen
 have k1:=hsee.list
 have CL:=Lib.hid (fun W=>ilabel_any S.list s W (by have:=h.list;omega) hs)
 have HV:=Lib.hid (show Im.begin_ s S = Im.put ⟨[Im.label S.list s],[],[]⟩ (Im.open_ (Im.label S.list s) S) from rfl)
 have CP:=Lib.hid (fun (F1:Nat→Prop) (W:World) (hm:Im.Mk F1 W gm (Im.open_ (Im.label S.list s) S))=>iput_any (hm.kept ((Below.refl _ _).alloc (Nat.le_refl _) _)) _ _ ⟨[Im.label S.list s],[],[]⟩ (Im.rd_one W (Im.label S.list s)) (Im.rs_nil F1 _) (by simp) ho)
 clear h hsee hs ho
 generalize Im.label S.list s = lb at *
 go_enter Tryz.func108,Tryz.ntmps108
 go_wp2_with fail
 go_at_call 25
 refine (CL.out _).mono ?_
 rintro e w1 ⟨rfl,hb1⟩
 have hm1:=HM0.out.kept hb1
 have HB1:=Lib.hid hb1
 obtain ⟨F2,m2,s2⟩:=hm1.toOpen lb
 obtain ⟨A1,c1,hs1⟩:=hm1.seen
 have q3:=hs1.opn
 have f3:=hs1.f 34
 have HM2:=Lib.hid m2
 have HS2:=Lib.hid s2
 obtain ⟨A2,c2,hs2⟩:=m2.seen
 have r3:=hs2.opn
 clear hm1 hs1 m2 s2 hs2 hb1
 go_wp2_with fail
 obtain ⟨W2,hW2⟩:∃ W2,w1.setCell ⟨gm,34,none⟩ (.string ⟨lb.toArray⟩) = W2:=⟨_,rfl⟩
 have HM2:=Lib.hid (show Im.Mk F2 W2 gm _ from hW2 ▸ HM2.out)
 have HS2:=Lib.hid (show Step F w1 F2 W2 from hW2 ▸ HS2.out)
 have hsz:w1.heap.size = W2.heap.size:=by rw [← hW2];simp [World.setCell]
 rw [hW2,hsz]
 clear hW2 hsz r3 q3 f3
 go_at_call 105
 refine (CP.out _ _ HM2.out).mono ?_
 rintro e w3 ⟨rfl,hto⟩
 go_wp2_with fail
 go_end0
 exact ⟨rfl,by rw [HV.out];exact ((hto.after (Step.of_below ((Below.refl _ _).alloc (Nat.le_refl _) _))).after HS2.out).after (Step.of_below HB1.out)⟩
end Go.Proofs.YtpcpaoeajcjoiaaGreatDoor
