/- Texts joined, what is not reached left out. -/
import Derived.WalkKit
import Derived.Below
import Derived.Lib.Hide
import Derived.Deep.QuietTactic
import Derived.BigQuiet
import Derived.Test.YtpcpaoeajcjoiaaGreatDoorKA
set_option linter.unusedVariables false
set_option linter.unusedSimpArgs false
namespace Go.Proofs.YtpcpaoeajcjoiaaGreatDoor.Kit
open Go.RowKit
theorem wp_region_class {P:Program} (C:World→Prop) {id:Nat} {Q:Exit→Act→World→Prop} {a:Act} {w:World} {l:List Oper} (hm:P.follows .mixedOrders = true) (hB:Region.lexB .any l.toArray = true) (hC:C { w with drawn:=w.drawn+1 })
  (h:wpQuiet P l.toArray C (fun a'=>∀ w',C w'→Q .normal a' w') l a):(Code.region id l.toArray true).wp P Q a w:=
 wp_region_quiet (C:=C) hm hB hC (by simpa using h)
theorem callB {P:Program} {f:FuncId} {args:Array Value} {B:Nat} {w0 W':World} {v:Value} (h:Calls P f args W' fun e w''=>e = .returned v∧Below W'.heap.size W' w'') (hb:Below B w0 W') (hB:B≤w0.heap.size) :
  Calls P f args W' fun e w''=>e = .returned v∧Below B w0 w'':=
 h.mono fun e w'' ⟨he,hw⟩=>⟨he,hb.trans (hw.mono (Nat.le_trans hB hb.size))⟩
end Go.Proofs.YtpcpaoeajcjoiaaGreatDoor.Kit
namespace Go.Proofs.YtpcpaoeajcjoiaaGreatDoor.Kit
open Go.RowKit
structure Fr (F:Nat→Prop) (w w':World):Prop where
 os:w'.os = w.os
 tape:w'.tape = w.tape
 output:w'.output = w.output
 size:w.heap.size≤w'.heap.size
 block:∀ k,k < w.heap.size→¬ F k→w'.heap[k]? = w.heap[k]?
theorem Fr.refl (F:Nat→Prop) (w:World):Fr F w w:=⟨rfl,rfl,rfl,Nat.le_refl _,fun _ _ _=>rfl⟩
theorem Fr.of_below {F:Nat→Prop} {w w':World} (h:Below w.heap.size w w'):Fr F w w':=⟨h.os,h.tape,h.output,h.size,fun k hk _=>h.block k hk⟩
theorem Fr.of_grown {F:Nat→Prop} {w w':World} {row:Option Nat} (h:w.grownBy w' row) (hr:∀ k,row = some k→F k):Fr F w w':=
 ⟨h.os,h.tape,h.output,h.size,fun k hk hn=>h.block k hk (fun e=>hn (hr k e.symm))⟩
theorem Fr.of_but {F:Nat→Prop} {w w':World} {g:Nat} (h:But g w w') (hg:F g):Fr F w w':=Fr.of_grown h fun k e=>by injection e with e;subst e;exact hg
theorem Fr.setCell {F:Nat→Prop} (w:World) (g i:Nat) (u:Value) (hg:F g):Fr F w (w.setCell ⟨g,i,none⟩ u):=Fr.of_but (But.setCell w g i u) hg
theorem Fr.drew {F:Nat→Prop} {w w':World} (h:Fr F w w'):Fr F w w'.drew:=⟨h.os,h.tape,h.output,h.size,h.block⟩
theorem Fr.mono {F G:Nat→Prop} {w w':World} (h:Fr F w w') (hs:∀ k,F k→G k):Fr G w w':=⟨h.os,h.tape,h.output,h.size,fun k hk hn=>h.block k hk (fun e=>hn (hs k e))⟩
theorem Fr.trans {F F':Nat→Prop} {a b c:World} (h:Fr F a b) (k:Fr F' b c) (hs:∀ j,F' j→F j ∨ a.heap.size≤j):Fr F a c:=
 ⟨k.os.trans h.os,k.tape.trans h.tape,k.output.trans h.output,Nat.le_trans h.size k.size,fun j hj hn=>
  (k.block j (Nat.lt_of_lt_of_le hj h.size) (fun e=>(hs j e).elim hn (fun e=>absurd hj (by omega)))).trans (h.block j hj hn)⟩
theorem Fr.below {F:Nat→Prop} {B:Nat} {w w':World} (h:Fr F w w') (hF:∀ k,F k→B≤k) (hB:B≤w.heap.size):Below B w w':=
 ⟨h.os,h.tape,h.output,h.size,fun k hk=>h.block k (Nat.lt_of_lt_of_le hk hB) (fun e=>by have:=hF k e;omega)⟩
theorem Fr.bk {F:Nat→Prop} {w w':World} (h:Fr F w w') {g:Nat} {t:TypeId} {cs:Array Value} (hb:Bk w g t cs) (hg:¬ F g):Bk w' g t cs:=(h.block g hb.lt hg).trans hb
theorem Fr.own {F:Nat→Prop} {w w':World} (h:Fr F w w') {base:Nat} {e:TypeId} {size:Nat} {v:Value} {n:Nat} {xs:List Value} (ho:w.ownsRow base e size v n xs) (hg:∀ k,v.ownBlock = some k→¬ F k):w'.ownsRow base e size v n xs:=by
 obtain ⟨h1,h2⟩:=ho
 refine ⟨h1,?_⟩
 rcases h2 with h2 | ⟨g,cap,cur,rfl,hb',hh,rest⟩
 ·exact .inl h2
 ·exact .inr ⟨g,cap,cur,rfl,hb',(h.block g (Array.getElem?_eq_some_iff.1 hh).1 (hg g rfl)).trans hh,rest⟩
theorem Fr.rd {F:Nat→Prop} {w w':World} (h:Fr F w w') {size:Nat} {v:Value} {n:Nat} {xs:List Value} (hr:Rd w size v n xs) (hg:∀ g off c,v = .slice (some ⟨g,off,none⟩) n c→0 < n→¬ F g):Rd w' size v n xs:=
 hr.keep h.size fun g off c e hn hk=>h.block g hk (hg g off c e hn)
structure Step (F:Nat→Prop) (w:World) (F':Nat→Prop) (w':World):Prop where
 fr:Fr F w w'
 new:∀ k,F' k→F k ∨ w.heap.size≤k
theorem Step.refl (F:Nat→Prop) (w:World):Step F w F w:=⟨Fr.refl F w,fun _ h=>.inl h⟩
theorem Step.of_below {F:Nat→Prop} {w w':World} (h:Below w.heap.size w w'):Step F w F w':=⟨Fr.of_below h,fun _ h=>.inl h⟩
theorem Step.trans {F F1 F2:Nat→Prop} {w w1 w2:World} (a:Step F w F1 w1) (b:Step F1 w1 F2 w2):Step F w F2 w2:=
 ⟨a.fr.trans b.fr a.new,fun k hk=>(b.new k hk).elim (a.new k) (fun h=>.inr (Nat.le_trans a.fr.size h))⟩
theorem Step.below {F F':Nat→Prop} {B:Nat} {w w':World} (h:Step F w F' w') (hF:∀ k,F k→B≤k) (hB:B≤w.heap.size):Below B w w':=h.fr.below hF hB
theorem Step.later {F F':Nat→Prop} {B:Nat} {w w':World} (h:Step F w F' w') (hF:∀ k,F k→B≤k) (hB:B≤w.heap.size):∀ k,F' k→B≤k:=fun k hk=>(h.new k hk).elim (hF k) (fun e=>Nat.le_trans hB e)
theorem own_uniq {w:World} {base base':Nat} {e e':TypeId} {size size':Nat} {v v':Value} {n n':Nat} {xs xs':List Value} (h:w.ownsRow base e size v n xs) (h':w.ownsRow base' e' size' v' n' xs') (hne:e ≠ e') {k:Nat} (hk:v.ownBlock = some k):v'.ownBlock ≠ some k:=by
 intro hk'
 rcases h.2 with ⟨rfl,_⟩ | ⟨g,cap,cur,rfl,_,hh,_⟩
 ·cases hk
 ·rcases h'.2 with ⟨rfl,_⟩ | ⟨g',cap',cur',rfl,_,hh',_⟩
  ·cases hk'
  ·simp [Value.ownBlock] at hk hk'
   subst hk hk'
   exact hne (Bk.uniq (t:=e) (t':=e') hh hh').1
theorem own_lt' {w:World} {base:Nat} {e:TypeId} {size:Nat} {v:Value} {n:Nat} {xs:List Value} (h:w.ownsRow base e size v n xs) {k:Nat} (hk:v.ownBlock = some k):k < w.heap.size:=by
 rcases h.2 with ⟨rfl,_⟩ | ⟨g,cap,cur,rfl,hb',hh,rest⟩
 ·cases hk
 ·simp [Value.ownBlock] at hk
  subst hk
  exact (Array.getElem?_eq_some_iff.1 hh).1
theorem own_bk_ne {w:World} {base:Nat} {e t:TypeId} {size:Nat} {v:Value} {n g:Nat} {xs:List Value} {cs:Array Value} (h:w.ownsRow base e size v n xs) (hb:Bk w g t cs) (hne:t ≠ e):v.ownBlock ≠ some g:=by
 intro hk
 rcases h.2 with ⟨rfl,_⟩ | ⟨g',cap,cur,rfl,hb',hh,rest⟩
 ·cases hk
 ·simp [Value.ownBlock] at hk
  subst hk
  exact hne (Bk.uniq (t:=t) (t':=e) hb hh).1
end Go.Proofs.YtpcpaoeajcjoiaaGreatDoor.Kit
