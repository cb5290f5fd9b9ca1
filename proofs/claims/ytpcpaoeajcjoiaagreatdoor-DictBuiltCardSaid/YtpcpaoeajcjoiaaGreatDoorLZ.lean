/- Texts joined, what is not reached left out. -/
import Derived.Test.YtpcpaoeajcjoiaaGreatDoorKO
import Derived.Deep.RegionHeld3
import Derived.Test.YtpcpaoeajcjoiaaGreatDoorKX
set_option linter.unusedVariables false
set_option linter.unusedSimpArgs false
namespace Go.Proofs.YtpcpaoeajcjoiaaGreatDoor
open Go.RowKit Kit
def LinesRd (w:World):List L6.Line→List Value→Prop
 | [],cs=>cs = []
 | x :: t,cs=>∃ vl va r,cs = vl :: .string ⟨x.word.toArray⟩ :: va :: r∧RdS w vl x.labels∧RdS w va x.args∧LinesRd w t r
theorem LinesV.rd {base:Nat} {w:World}:∀ {ls:List L6.Line} {cs:List Value},LinesV base w ls cs→LinesRd w ls cs
 | [],_,e=>e
 | _ :: _,_,⟨vl,va,r,e,h1,h2,h3⟩=>⟨vl,va,r,e,h1.rd,h2.rd,LinesV.rd h3⟩
theorem LinesRd.kept {w w':World} (hb:Below w.heap.size w w'):∀ {ls:List L6.Line} {cs:List Value},LinesRd w ls cs→LinesRd w' ls cs
 | [],_,e=>e
 | _ :: _,_,⟨vl,va,r,e,h1,h2,h3⟩=>⟨vl,va,r,e,h1.kept hb,h2.kept hb,LinesRd.kept hb h3⟩
theorem LinesRd.at {w:World}:∀ {ls:List L6.Line} {cs:List Value} (k:Nat) (hk:k < ls.length),LinesRd w ls cs→∃ vl va,cs[k * 3]? = some vl∧cs[k * 3+1]? = some (.string ⟨ls[k].word.toArray⟩)∧cs[k * 3+2]? = some va∧RdS w vl ls[k].labels∧RdS w va ls[k].args
 | [],_,k,hk,_=>by simp at hk
 | x :: t,_,0,_,⟨vl,va,r,e,h1,h2,h3⟩=>by subst e;exact ⟨vl,va,rfl,rfl,rfl,h1,h2⟩
 | x :: t,_,k+1,hk,⟨vl,va,r,e,h1,h2,h3⟩=>by
  subst e
  obtain ⟨ul,ua,g1,g2,g3,g4,g5⟩:=LinesRd.at k (by simpa using hk) h3
  refine ⟨ul,ua,?_,?_,?_,by simpa using g4,by simpa using g5⟩
  ·rw [show (k+1) * 3 = k * 3+3 by omega];simpa using g1
  ·rw [show (k+1) * 3+1 = k * 3+1+3 by omega];simpa using g2
  ·rw [show (k+1) * 3+2 = k * 3+2+3 by omega];simpa using g3
def RdL (w:World) (v:Value) (ls:List L6.Line):Prop:=∃ cs,Rd w 3 v ls.length cs∧LinesRd w ls cs
theorem ROwnL.rd {base:Nat} {w:World} {v:Value} {ls:List L6.Line} (h:ROwnL base w v ls):RdL w v ls:=by
 obtain ⟨cs,h1,h2⟩:=h
 exact ⟨cs,Rd.of_own h1,h2.rd⟩
theorem OwnL.rd {base:Nat} {w:World} {v:Value} {ls:List L6.Line} (h:OwnL base w v ls):RdL w v ls:=by
 obtain ⟨cs,h1,h2⟩:=h
 exact ⟨cs,Rd.of_own h1,h2.rd⟩
theorem RdL.kept {w w':World} {v:Value} {ls:List L6.Line} (h:RdL w v ls) (hb:Below w.heap.size w w'):RdL w' v ls:=by
 obtain ⟨cs,h1,h2⟩:=h
 exact ⟨cs,h1.kept hb,h2.kept hb⟩
theorem RdL.form {w:World} {v:Value} {ls:List L6.Line} (h:RdL w v ls):∃ A c,v = .slice A ls.length c:=by
 obtain ⟨cs,h1,_⟩:=h
 exact h1.form
theorem RdL.at {w:World} {v:Value} {ls:List L6.Line} (h:RdL w v ls) {k:Nat} (hk:k < ls.length):∃ g off c vl va,v = .slice (some ⟨g,off,none⟩) ls.length c∧g < w.heap.size ∧
  w.cell? ⟨g,off+k * 3,none⟩ = some vl∧w.cell? ⟨g,off+k * 3+1,none⟩ = some (.string ⟨ls[k].word.toArray⟩)∧w.cell? ⟨g,off+k * 3+2,none⟩ = some va∧RdS w vl ls[k].labels∧RdS w va ls[k].args:=by
 obtain ⟨cs,⟨hl,A,c,rfl,h2,h3,h4⟩,hr⟩:=h
 obtain ⟨g,off,rfl,hg,hc⟩:=h4 (by omega)
 obtain ⟨vl,va,e0,e1,e2,r1,r2⟩:=hr.at k hk
 exact ⟨g,off,c,vl,va,rfl,hg,hc _ _ e0,hc _ _ e1,hc _ _ e2,r1,r2⟩
def OwnZ (base:Nat) (w:World) (v:Value) (l:List (List UInt8)):Prop:=OwnS base w v l ∨ (l = []∧∃ A,v = .slice A 0 0)
theorem OwnZ.form {base:Nat} {w:World} {v:Value} {l:List (List UInt8)} (h:OwnZ base w v l):∃ A c,v = .slice A l.length c:=by
 rcases h with h | ⟨rfl,A,rfl⟩
 ·exact h.form
 ·exact ⟨A,0,rfl⟩
theorem OwnZ.rd {base:Nat} {w:World} {v:Value} {l:List (List UInt8)} (h:OwnZ base w v l):RdS w v l:=by
 rcases h with h | ⟨rfl,A,rfl⟩
 ·exact h.rd
 ·exact ⟨by simp [L6.sv],A,0,rfl,Nat.le_refl _,Nat.zero_le _,fun hn=>absurd hn (by simp)⟩
theorem OwnZ.kept {base:Nat} {w w':World} {v:Value} {l:List (List UInt8)} (h:OwnZ base w v l) (hb:Below w.heap.size w w'):OwnZ base w' v l:=by
 rcases h with h | h
 ·exact .inl (h.kept hb)
 ·exact .inr h
theorem OwnZ.rebase {base base':Nat} {w:World} {v:Value} {l:List (List UInt8)} (h:OwnZ base w v l) (hb:base'≤base):OwnZ base' w v l:=by
 rcases h with h | h
 ·exact .inl (h.rebase hb)
 ·exact .inr h
theorem OwnS.grownT {T:TypeId} (hT:T ≠ 9) {base base':Nat} {w1 w':World} {v u:Value} {size n:Nat} {cs:List Value} {l:List (List UInt8)} (hv:w1.ownsRow base' T size v n cs) (hg:w1.grownBy w' v.ownBlock) (hu:OwnS base w1 u l):OwnS base w' u l:=by
 obtain ⟨e1,e2⟩:=hu
 refine ⟨e1,?_⟩
 rcases e2 with e2 | ⟨g',cap,cur,rfl,hb',hh,rest⟩
 ·exact .inl e2
 ·refine .inr ⟨g',cap,cur,rfl,hb',(hg.block g' (Array.getElem?_eq_some_iff.1 hh).1 (fun e=>?_)).trans hh,rest⟩
  obtain ⟨_,q⟩:=hv
  rcases q with ⟨rfl,_⟩ | ⟨g2,cap2,cur2,rfl,_,hh2,_⟩
  ·simp [Value.ownBlock] at e
  ·simp [Value.ownBlock] at e
   subst e
   rw [hh] at hh2
   simp at hh2
   exact hT hh2.2.symm
theorem OwnZ.grown {T:TypeId} (hT:T ≠ 9) {base base':Nat} {w1 w':World} {v u:Value} {size n:Nat} {cs:List Value} {l:List (List UInt8)} (hv:w1.ownsRow base' T size v n cs) (hg:w1.grownBy w' v.ownBlock) (hu:OwnZ base w1 u l):OwnZ base w' u l:=by
 rcases hu with h | h
 ·exact .inl (OwnS.grownT hT hv hg h)
 ·exact .inr h
def LinesZ (base:Nat) (w:World):List L6.Line→List Value→Prop
 | [],cs=>cs = []
 | x :: t,cs=>∃ vl va r,cs = vl :: .string ⟨x.word.toArray⟩ :: va :: r∧OwnZ base w vl x.labels∧OwnZ base w va x.args∧LinesZ base w t r
theorem LinesZ.map {base:Nat} {w w':World} (h:∀ v l,OwnZ base w v l→OwnZ base w' v l):∀ {ls:List L6.Line} {cs:List Value},LinesZ base w ls cs→LinesZ base w' ls cs
 | [],_,e=>e
 | _ :: _,_,⟨vl,va,r,e,h1,h2,h3⟩=>⟨vl,va,r,e,h _ _ h1,h _ _ h2,LinesZ.map h h3⟩
theorem LinesZ.snoc {base:Nat} {w:World} {x:L6.Line} {vl va:Value} (h1:OwnZ base w vl x.labels) (h2:OwnZ base w va x.args):∀ {ls:List L6.Line} {cs:List Value},LinesZ base w ls cs→LinesZ base w (ls ++ [x]) (cs ++ [vl,.string ⟨x.word.toArray⟩,va])
 | [],_,e=>by
  have e:_ = []:=e
  subst e
  exact ⟨vl,va,[],rfl,h1,h2,rfl⟩
 | _ :: _,_,⟨vl',va',r,e,g1,g2,g3⟩=>by subst e;exact ⟨vl',va',_,rfl,g1,g2,LinesZ.snoc h1 h2 g3⟩
theorem LinesZ.rd {base:Nat} {w:World}:∀ {ls:List L6.Line} {cs:List Value},LinesZ base w ls cs→LinesRd w ls cs
 | [],_,e=>e
 | _ :: _,_,⟨vl,va,r,e,h1,h2,h3⟩=>⟨vl,va,r,e,h1.rd,h2.rd,LinesZ.rd h3⟩
structure Cop (T:TypeId) (w W:World) (v:Value) (ls:List L6.Line) (cs:List Value):Prop where
 below:Below w.heap.size w W
 own:W.ownsRow w.heap.size T 3 v ls.length cs
 lines:LinesZ w.heap.size W ls cs
theorem Cop.kept {T:TypeId} {w W W':World} {v:Value} {ls:List L6.Line} {cs:List Value} (h:Cop T w W v ls cs) (hb:Below W.heap.size W W'):Cop T w W' v ls cs:=
 ⟨h.below.trans (hb.mono h.below.size),own_kept h.own hb,h.lines.map fun _ _ hz=>hz.kept hb⟩
theorem Cop.rd {T:TypeId} {w W:World} {v:Value} {ls:List L6.Line} {cs:List Value} (h:Cop T w W v ls cs):RdL W v ls:=⟨cs,Rd.of_own h.own,h.lines.rd⟩
theorem Cop.grown {T:TypeId} (hT:T ≠ 9) {w W W':World} {v v' vl va:Value} {ls:List L6.Line} {x:L6.Line} {cs:List Value} (h:Cop T w W v ls cs) (h1:OwnZ w.heap.size W vl x.labels) (h2:OwnZ w.heap.size W va x.args)
  (ho:W'.ownsRow w.heap.size T 3 v' (ls.length+1) (cs ++ [vl,.string ⟨x.word.toArray⟩,va])) (hb:Below w.heap.size W W') (hg:W.grownBy W' v.ownBlock):Cop T w W' v' (ls ++ [x]) (cs ++ [vl,.string ⟨x.word.toArray⟩,va]):=
 ⟨h.below.trans hb,by simpa using ho,LinesZ.snoc (OwnZ.grown hT h.own hg h1) (OwnZ.grown hT h.own hg h2) (h.lines.map fun _ _ hz=>OwnZ.grown hT h.own hg hz)⟩
end Go.Proofs.YtpcpaoeajcjoiaaGreatDoor
