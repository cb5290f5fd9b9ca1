/- Texts joined, what is not reached left out. -/
import Derived.Test.YtpcpaoeajcjoiaaGreatDoorLT
import Derived.Test.YtpcpaoeajcjoiaaGreatDoorQL6Tab
set_option linter.unusedVariables false
set_option linter.unusedSimpArgs false
namespace Go.Proofs.YtpcpaoeajcjoiaaGreatDoor
open Go.RowKit Kit
def F8.opp (c:List UInt8):Option (List UInt8):=
 if c = [101,113] then some [110,101] else if c = [110,101] then some [101,113] else if c = [108,116] then some [103,101] else if c = [103,101] then some [108,116] else if c = [108,116,117] then some [103,101,117] else if c = [103,101,117] then some [108,116,117] else none
inductive F8.K
 | ifK | elseK | thenK | beginK | whileK | repeatK | untilK | againK
 deriving DecidableEq
def F8.wIf:List UInt8:=[105,102]
def F8.wElse:List UInt8:=[101,108,115,101]
def F8.wThen:List UInt8:=[116,104,101,110]
def F8.wBegin:List UInt8:=[98,101,103,105,110]
def F8.wWhile:List UInt8:=[119,104,105,108,101]
def F8.wRepeat:List UInt8:=[114,101,112,101,97,116]
def F8.wUntil:List UInt8:=[117,110,116,105,108]
def F8.wAgain:List UInt8:=[97,103,97,105,110]
def F8.wBegun:List UInt8:=[98,101,103,117,110]
def F8.word:F8.K→List UInt8
 | .ifK=>F8.wIf | .elseK=>F8.wElse | .thenK=>F8.wThen | .beginK=>F8.wBegin | .whileK=>F8.wWhile | .repeatK=>F8.wRepeat | .untilK=>F8.wUntil | .againK=>F8.wAgain
def F8.kind (s:List UInt8):Option F8.K:=
 if s = F8.wIf then some .ifK else if s = F8.wElse then some .elseK else if s = F8.wThen then some .thenK else if s = F8.wBegin then some .beginK else if s = F8.wWhile then some .whileK
 else if s = F8.wRepeat then some .repeatK else if s = F8.wUntil then some .untilK else if s = F8.wAgain then some .againK else none
theorem F8.kind_word (k:F8.K):F8.kind (F8.word k) = some k:=by cases k <;> decide
theorem F8.word_kind {s:List UInt8} {k:F8.K} (h:F8.kind s = some k):s = F8.word k:=by
 unfold F8.kind at h
 repeat' split at h
 all_goals first | cases h;assumption | cases h
def F8.cond:F8.K→Bool
 | .ifK=>true | .whileK=>true | .untilK=>true | _=>false
def F8.fine (k:F8.K) (x:L6.Line):Bool:=if F8.cond k then decide (x.args.length = 3) && (F8.opp (x.args.getD 1 [])).isSome else decide (x.args.length = 0)
abbrev F8.Opn:=List (List UInt8 × List UInt8)
structure F8.St where
 out:List L6.Line
 opn:F8.Opn
 made:Nat
def F8.lab (n:Nat):List UInt8:=64 :: Lib.decDigits n
def F8.br (x:L6.Line) (t:List UInt8):L6.Line:=⟨x.labels,98 :: (F8.opp (x.args.getD 1 [])).getD [],[x.args.getD 0 [],x.args.getD 2 [],t]⟩
def F8.jmp (ls:List (List UInt8)) (t:List UInt8):L6.Line:=⟨ls,[106],[t]⟩
def F8.at_ (ls:List (List UInt8)) (k:List UInt8):L6.Line:=⟨ls ++ [k],[],[]⟩
def F8.own (k:F8.K) (S:F8.St) (x:L6.Line):Option F8.St:=
 match k with
 | .ifK=>some ⟨S.out ++ [F8.br x (F8.lab S.made)],(F8.wIf,F8.lab S.made) :: S.opn,S.made+1⟩
 | .beginK=>some ⟨S.out ++ [F8.at_ x.labels (F8.lab S.made)],(F8.wBegin,F8.lab S.made) :: S.opn,S.made+1⟩
 | .elseK=>match S.opn with
  | []=>none
  | (w,k) :: r=>if w = F8.wIf then some ⟨S.out ++ [F8.jmp x.labels (F8.lab S.made)] ++ [F8.at_ [] k],(F8.wElse,F8.lab S.made) :: r,S.made+1⟩ else none
 | .thenK=>match S.opn with
  | []=>none
  | (w,k) :: r=>if w = F8.wIf ∨ w = F8.wElse then some ⟨S.out ++ [F8.at_ x.labels k],r,S.made⟩ else none
 | .whileK=>match S.opn with
  | []=>none
  | (w,k) :: r=>if w = F8.wBegin then some ⟨S.out ++ [F8.br x (F8.lab S.made)],(F8.wWhile,F8.lab S.made) :: (F8.wBegun,k) :: r,S.made+1⟩ else none
 | .repeatK=>match S.opn with
  | []=>none
  | (w,n) :: r=>if w = F8.wWhile then (match r with
   | []=>some ⟨S.out ++ [F8.jmp x.labels []] ++ [F8.at_ [] n],[],S.made⟩
   | (w',k) :: r'=>if w' = F8.wBegun then some ⟨S.out ++ [F8.jmp x.labels k] ++ [F8.at_ [] n],r',S.made⟩ else some ⟨S.out ++ [F8.jmp x.labels []] ++ [F8.at_ [] n],r,S.made⟩) else none
 | .untilK=>match S.opn with
  | []=>none
  | (w,k) :: r=>if w = F8.wBegin then some ⟨S.out ++ [F8.br x k],r,S.made⟩ else none
 | .againK=>match S.opn with
  | []=>none
  | (w,k) :: r=>if w = F8.wBegin then some ⟨S.out ++ [F8.jmp x.labels k],r,S.made⟩ else none
inductive F8.Rel:F8.Opn→F8.Opn→Prop
 | nil:F8.Rel [] []
 | push {a b:F8.Opn} (w k:List UInt8) (hw:w = F8.wIf ∨ w = F8.wElse ∨ w = F8.wBegin) (h:F8.Rel a b):F8.Rel ((w,k) :: a) ((w,k) :: b)
 | loop {a b:F8.Opn} (n k:List UInt8) (h:F8.Rel a b):F8.Rel ((F8.wWhile,n) :: (F8.wBegun,k) :: a) ((F8.wWhile,n) :: (F8.wBegin,k) :: b)
def F8.made (s:List UInt8):Bool:=s.headD 0 == 64
inductive F8.R
 | bad (e:Nat)
 | ok (S:F8.St)
def F8.step (f:F8.K→F8.St→L6.Line→Option F8.St) (S:F8.St) (x:L6.Line):F8.R:=
 if x.labels.any F8.made then .bad 41 else
  match F8.kind x.word with
  | none=>.ok ⟨S.out ++ [x],S.opn,S.made⟩
  | some k=>if F8.fine k x then (match f k S x with | some S'=>.ok S' | none=>.bad 44) else .bad 40
def F8.run (f:F8.K→F8.St→L6.Line→Option F8.St):Nat→F8.St→List L6.Line→Sum (Nat × Nat) F8.St
 | _,S,[]=>.inr S
 | n,S,x :: t=>match F8.step f S x with
  | .bad e=>.inl (n+1,e)
  | .ok S'=>F8.run f (n+1) S' t
def F8.start:F8.St:=⟨[],[],0⟩
def F8.tell (len:Nat):Sum (Nat × Nat) F8.St→List L6.Line × Nat × Nat
 | .inl (n,e)=>([],n,e)
 | .inr S=>if S.opn = [] then (S.out,0,0) else ([],len+1,44)
def F8.plain (l:List L6.Line):List L6.Line × Nat × Nat:=F8.tell l.length (F8.run F8.own 0 F8.start l)
theorem F8.run_take (f:F8.K→F8.St→L6.Line→Option F8.St) (l:List L6.Line) {k:Nat} (hk:k < l.length) (n:Nat) (S S':F8.St) (h:F8.run f n S (l.take k) = .inr S') :
  F8.run f n S (l.take (k+1)) = (match F8.step f S' l[k] with | .bad e=>.inl (n+k+1,e) | .ok S2=>.inr S2)∧(∀ e,F8.step f S' l[k] = .bad e→F8.run f n S l = .inl (n+k+1,e)):=by
 induction l generalizing k n S with
 | nil=>simp at hk
 | cons x t ih=>
  cases k with
  | zero=>
   simp only [List.take_zero,F8.run] at h
   cases h
   rw [List.take_succ_cons,List.take_zero,List.getElem_cons_zero]
   unfold F8.run
   generalize F8.step f S' x = r
   cases r with
   | bad e=>exact ⟨rfl,fun e' h'=>by cases h';rfl⟩
   | ok S2=>exact ⟨rfl,fun e' h'=>by cases h'⟩
  | succ k=>
   rw [List.take_succ_cons] at h ⊢
   rw [List.getElem_cons_succ]
   unfold F8.run at h ⊢
   cases he:F8.step f S x with
   | bad e=>rw [he] at h;cases h
   | ok S2=>
    rw [he] at h
    have:=ih (k:=k) (by simpa using hk) (n+1) S2 h
    rw [show n+(k+1)+1 = n+1+k+1 by omega]
    exact this
def F8.Bare (l:List L6.Line):Prop:=∀ y ∈ l,F8.kind y.word = none
theorem F8.Bare.one {l:List L6.Line} (h:F8.Bare l) {y:L6.Line} (hy:F8.kind y.word = none):F8.Bare (l ++ [y]):=fun z hz=>by
 rcases List.mem_append.1 hz with hz | hz
 ·exact h z hz
 ·simp at hz;subst hz;exact hy
theorem F8.own_size {k:F8.K} {S S':F8.St} {x:L6.Line} (h:F8.own k S x = some S'):S'.out.length≤S.out.length+2∧S'.opn.length≤S.opn.length+1∧S'.made≤S.made+1:=by
 unfold F8.own at h
 repeat' split at h
 all_goals first
  | (cases h;done)
  | (cases h;simp_all;done)
  | (cases h;simp_all;omega)
theorem F8.step_size {S S':F8.St} {x:L6.Line} (h:F8.step F8.own S x = .ok S'):S'.out.length≤S.out.length+2∧S'.opn.length≤S.opn.length+1∧S'.made≤S.made+1:=by
 unfold F8.step at h
 split at h
 ·cases h
 ·cases hk:F8.kind x.word with
  | none=>
   rw [hk] at h
   cases h
   simp
  | some k=>
   rw [hk] at h
   dsimp only at h
   split at h
   ·cases ho:F8.own k S x with
    | none=>rw [ho] at h;cases h
    | some S2=>rw [ho] at h;cases h;exact F8.own_size ho
   ·cases h
theorem F8.run_size (l:List L6.Line):∀ (n:Nat) (S S':F8.St),F8.run F8.own n S l = .inr S'→S'.out.length≤S.out.length+2 * l.length∧S'.opn.length≤S.opn.length+l.length∧S'.made≤S.made+l.length:=by
 induction l with
 | nil=>intro n S S' h;cases h;simp
 | cons x t ih=>
  intro n S S' h
  unfold F8.run at h
  cases hs:F8.step F8.own S x with
  | bad e=>rw [hs] at h;cases h
  | ok S2=>
   rw [hs] at h
   have h1:=ih _ _ _ h
   have h2:=F8.step_size hs
   simp only [List.length_cons]
   omega
inductive F8.All2 {α β:Type} (R:α→β→Prop):List α→List β→Prop
 | nil:F8.All2 R [] []
 | cons {a:α} {b:β} {l:List α} {m:List β} (h:R a b) (t:F8.All2 R l m):F8.All2 R (a :: l) (b :: m)
theorem F8.All2.len {α β:Type} {R:α→β→Prop} {a:List α} {b:List β} (h:F8.All2 R a b):a.length = b.length:=by
 induction h with
 | nil=>rfl
 | cons _ _ ih=>simp [ih]
theorem F8.All2.at {α β:Type} {R:α→β→Prop} {a:List α} {b:List β} (h:F8.All2 R a b) (i:Nat) (h1:i < a.length) (h2:i < b.length):R a[i] b[i]:=by
 induction h generalizing i with
 | nil=>simp at h1
 | cons h _ ih=>
  cases i with
  | zero=>exact h
  | succ i=>exact ih i _ _
def F8.TSh (N:Nat) (s t:List UInt8):Prop:=(F8.made s = false∧s = t) ∨ ∃ n,n < N∧s = F8.lab n∧t = F8.lab (n+1)
structure F8.LSh (N:Nat) (y z:L6.Line):Prop where
 word:y.word = z.word
 labels:F8.All2 (F8.TSh N) y.labels z.labels
 args:F8.All2 (F8.TSh N) y.args z.args
structure F8.Sh (N:Nat) (S S':F8.St):Prop where
 made:S'.made = S.made+1
 out:∃ o,S'.out = F8.at_ [] (F8.lab 0) :: o∧F8.All2 (F8.LSh N) S.out o
 opn:∃ p,S'.opn = p ++ [(F8.wBegin,F8.lab 0)]∧F8.All2 (fun a b:List UInt8 × List UInt8=>a.1 = b.1∧F8.TSh N a.2 b.2) S.opn p
theorem own_other {T T':TypeId} (hT:T' ≠ T) {base base':Nat} {w w':World} {v u:Value} {size size' n m:Nat} {cs xs:List Value} (hv:w.ownsRow base' T size v n cs) (hg:w.grownBy w' v.ownBlock) (hu:w.ownsRow base T' size' u m xs):w'.ownsRow base T' size' u m xs:=by
 obtain ⟨e1,e2⟩:=hu
 refine ⟨e1,?_⟩
 rcases e2 with e2 | ⟨g',cap,cur,rfl,hb',hh,rest⟩
 ·exact .inl e2
 ·refine .inr ⟨g',cap,cur,rfl,hb',(hg.block g' (Array.getElem?_eq_some_iff.1 hh).1 (fun e=>?_)).trans hh,rest⟩
  obtain ⟨_,q⟩:=hv
  rcases q with ⟨rfl,_⟩ | ⟨g2,cap2,cur2,rfl,_,hh2,_⟩
  ·simp [Value.ownBlock] at e
  ·simp [Value.ownBlock] at e
   subst e
   rw [hh] at hh2
   simp at hh2
   exact hT hh2.2
theorem bk_other {T:TypeId} {t:TypeId} (hT:t ≠ T) {base':Nat} {w w':World} {v:Value} {size n:Nat} {cs:List Value} {g:Nat} {xs:Array Value} (hv:w.ownsRow base' T size v n cs) (hg:w.grownBy w' v.ownBlock) (hb:Bk w g t xs):Bk w' g t xs:=
 (hg.block _ hb.lt (fun e=>own_ne hv hb hT e.symm)).trans hb
theorem own_but {T:TypeId} {base g:Nat} {w w':World} {v:Value} {size n:Nat} {xs:List Value} {t:TypeId} {cs:Array Value} (h:w.ownsRow base T size v n xs) (hk:Bk w g t cs) (ht:t ≠ T) (hb:But g w w'):w'.ownsRow base T size v n xs:=by
 have hne:=own_ne h hk ht
 obtain ⟨h1,h2⟩:=h
 refine ⟨h1,?_⟩
 rcases h2 with h2 | ⟨g',cap,cur,rfl,hb',hh,rest⟩
 ·exact .inl h2
 ·exact .inr ⟨g',cap,cur,rfl,hb',(hb.block (Array.getElem?_eq_some_iff.1 hh).1 (fun e=>hne (by simp [Value.ownBlock,e]))).trans hh,rest⟩
def F8.Z (own:Bool) (B:Nat) (w:World) (v:Value) (l:List (List UInt8)):Prop:=OwnZ B w v l ∨ (own = false∧RdS w v l∧∀ g off n c,v = .slice (some ⟨g,off,none⟩) n c→0 < n→g < B)
theorem F8.Z.rd {own:Bool} {B:Nat} {w:World} {v:Value} {l:List (List UInt8)} (h:F8.Z own B w v l):RdS w v l:=by
 rcases h with h | h
 ·exact h.rd
 ·exact h.2.1
theorem F8.Z.form {own:Bool} {B:Nat} {w:World} {v:Value} {l:List (List UInt8)} (h:F8.Z own B w v l):∃ A c,v = .slice A l.length c:=Rd.form h.rd
theorem F8.Z.own {B:Nat} {w:World} {v:Value} {l:List (List UInt8)} (h:F8.Z true B w v l):OwnZ B w v l:=by
 rcases h with h | h
 ·exact h
 ·cases h.1
def F8.Free (gm:Nat) (W:World) (g:Nat):Prop:=g ≠ gm∧(∀ v,W.cell? ⟨gm,0,none⟩ = some v→v.ownBlock ≠ some g)∧∀ v,W.cell? ⟨gm,1,none⟩ = some v→v.ownBlock ≠ some g
theorem F8.Free.same {gm g:Nat} {w w':World} (h:F8.Free gm w g) (e:w'.heap[gm]? = w.heap[gm]?):F8.Free gm w' g:=by
 have c:∀ i,w'.cell? ⟨gm,i,none⟩ = w.cell? ⟨gm,i,none⟩:=fun i=>World.cell?_of_block (a:=⟨gm,i,none⟩) e
 exact ⟨h.1,fun v hv=>h.2.1 v ((c 0).symm.trans hv),fun v hv=>h.2.2 v ((c 1).symm.trans hv)⟩
structure F8.Stay (gm B:Nat) (w w':World):Prop where
 below:Below B w w'
 text:∀ g cs,Bk w g 9 cs→w'.heap[g]? = w.heap[g]?
 keep:∀ g,g < w.heap.size→F8.Free gm w g→w'.heap[g]? = w.heap[g]?∧F8.Free gm w' g
theorem F8.Stay.refl (gm B:Nat) (w:World):F8.Stay gm B w w:=⟨Below.refl _ _,fun _ _ _=>rfl,fun _ _ h=>⟨rfl,h⟩⟩
theorem F8.Stay.trans {gm B:Nat} {a b c:World} (h:F8.Stay gm B a b) (k:F8.Stay gm B b c):F8.Stay gm B a c:=
 ⟨h.below.trans k.below,fun g cs hb=>(k.text g cs ((h.text g cs hb).trans hb)).trans (h.text g cs hb),fun g hg hf=>by
  obtain ⟨e1,f1⟩:=h.keep g hg hf
  obtain ⟨e2,f2⟩:=k.keep g (Nat.lt_of_lt_of_le hg h.below.size) f1
  exact ⟨e2.trans e1,f2⟩⟩
theorem F8.Stay.of {gm B:Nat} {w w':World} (h:Below w.heap.size w w') (hB:B≤w.heap.size) (hg:gm < w.heap.size):F8.Stay gm B w w':=
 ⟨h.mono hB,fun g cs hb=>h.block g hb.lt,fun g hl hf=>⟨h.block g hl,hf.same (h.block gm hg)⟩⟩
def F8.Where (v v':Value) (n:Nat):Prop:=∀ k,v'.ownBlock = some k→v.ownBlock = some k ∨ n≤k
theorem own_lt {w:World} {base:Nat} {e:TypeId} {size:Nat} {v:Value} {n:Nat} {xs:List Value} (h:w.ownsRow base e size v n xs) {k:Nat} (hk:v.ownBlock = some k):k < w.heap.size:=by
 obtain ⟨_,h2⟩:=h
 rcases h2 with ⟨rfl,_⟩ | ⟨g,cap,cur,rfl,hb',hh,rest⟩
 ·cases hk
 ·simp [Value.ownBlock] at hk
  subst hk
  exact (Array.getElem?_eq_some_iff.1 hh).1
theorem F8.stay_set {gm B:Nat} {w w':World} {TM:TypeId} {cs:Array Value} {row:Option Nat} (hk0:Bk w gm TM cs) (hg:w.grownBy w' row) (hk:Bk w' gm TM cs) (hne:row ≠ some gm) (ht:∀ g cs,Bk w g 9 cs→row ≠ some g) (hms:TM ≠ 9) (hrow:∀ g,F8.Free gm w g→row ≠ some g) (hb:Below B w w') (hB:B≤gm) (i:Nat) (u:Value)
  (hw:∀ g,g < w.heap.size→F8.Free gm w g→F8.Free gm (w'.setCell ⟨gm,i,none⟩ u) g):F8.Stay gm B w (w'.setCell ⟨gm,i,none⟩ u):=
 ⟨hb.setCell (p:=⟨gm,i,none⟩) hB _,fun g cs' hbk=>((But.setCell w' gm i u).block (Nat.lt_of_lt_of_le hbk.lt hb.size) (hbk.ne hk0 (Ne.symm hms))).trans (hg.block g hbk.lt (fun e=>ht g cs' hbk e.symm)),
  fun g hl hf=>⟨((But.setCell w' gm i u).block (Nat.lt_of_lt_of_le hl hb.size) hf.1).trans (hg.block g hl (fun e=>hrow g hf e.symm)),hw g hl hf⟩⟩
theorem OwnZ.stay {gm base B:Nat} {w w':World} {v:Value} {l:List (List UInt8)} (h:OwnZ base w v l) (hs:F8.Stay gm B w w'):OwnZ base w' v l:=by
 rcases h with ⟨h1,h2⟩ | h
 ·refine .inl ⟨h1,?_⟩
  rcases h2 with h2 | ⟨g,cap,cur,rfl,hb',hh,rest⟩
  ·exact .inl h2
  ·exact .inr ⟨g,cap,cur,rfl,hb',(hs.text g cur hh).trans hh,rest⟩
 ·exact .inr h
theorem F8.Z.stay {own:Bool} {gm B:Nat} {w w':World} {v:Value} {l:List (List UInt8)} (h:F8.Z own B w v l) (hs:F8.Stay gm B w w'):F8.Z own B w' v l:=by
 rcases h with h | ⟨h1,h2,h3⟩
 ·exact .inl (h.stay hs)
 ·refine .inr ⟨h1,Rd.keep h2 hs.below.size fun g off c e hn hg=>hs.below.block g (h3 g off _ c e hn),h3⟩
def F8.Ls (R:Value→List (List UInt8)→Prop):List L6.Line→List Value→Prop
 | [],cs=>cs = []
 | x :: t,cs=>∃ vl va r,cs = vl :: .string ⟨x.word.toArray⟩ :: va :: r∧R vl x.labels∧R va x.args∧F8.Ls R t r
theorem F8.Ls.map {R R':Value→List (List UInt8)→Prop} (h:∀ v l,R v l→R' v l):∀ {ls:List L6.Line} {cs:List Value},F8.Ls R ls cs→F8.Ls R' ls cs
 | [],_,e=>e
 | _ :: _,_,⟨vl,va,r,e,h1,h2,h3⟩=>⟨vl,va,r,e,h _ _ h1,h _ _ h2,F8.Ls.map h h3⟩
theorem F8.Ls.snoc {R:Value→List (List UInt8)→Prop} {x:L6.Line} {vl va:Value} (h1:R vl x.labels) (h2:R va x.args):∀ {ls:List L6.Line} {cs:List Value},F8.Ls R ls cs→F8.Ls R (ls ++ [x]) (cs ++ [vl,.string ⟨x.word.toArray⟩,va])
 | [],_,e=>by
  have e:_ = []:=e
  subst e
  exact ⟨vl,va,[],rfl,h1,h2,rfl⟩
 | _ :: _,_,⟨vl',va',r,e,g1,g2,g3⟩=>by subst e;exact ⟨vl',va',_,rfl,g1,g2,F8.Ls.snoc h1 h2 g3⟩
theorem F8.Ls.rd {R:Value→List (List UInt8)→Prop} {w:World} (h:∀ v l,R v l→RdS w v l):∀ {ls:List L6.Line} {cs:List Value},F8.Ls R ls cs→LinesRd w ls cs
 | [],_,e=>e
 | _ :: _,_,⟨vl,va,r,e,h1,h2,h3⟩=>⟨vl,va,r,e,h _ _ h1,h _ _ h2,F8.Ls.rd h h3⟩
def F8.blk:Value→Option Nat
 | .slice (some a) n _=>if n = 0 then none else some a.block
 | _=>none
theorem F8.blk_own {v:Value} {k:Nat} (h:F8.blk v = some k):v.ownBlock = some k:=by
 unfold F8.blk at h
 split at h
 ·split at h
  ·cases h
  ·exact h
 ·cases h
def F8.blks (cs:List Value):List Nat:=cs.filterMap F8.blk
def F8.Apart (H:Nat) (cs:List Value):Prop:=(F8.blks cs).Nodup∧∀ k ∈ F8.blks cs,k < H
theorem F8.Apart.mono {H H':Nat} {cs:List Value} (h:F8.Apart H cs) (hH:H≤H'):F8.Apart H' cs:=⟨h.1,fun k hk=>Nat.lt_of_lt_of_le (h.2 k hk) hH⟩
def F8.Sep (own:Bool) (H:Nat) (cs:List Value):Prop:=(own = true→(F8.blks cs).Nodup)∧∀ k ∈ F8.blks cs,k < H
theorem F8.Sep.apart {H:Nat} {cs:List Value} (h:F8.Sep true H cs):F8.Apart H cs:=⟨h.1 rfl,h.2⟩
theorem F8.Sep.mono {own:Bool} {H H':Nat} {cs:List Value} (h:F8.Sep own H cs) (hH:H≤H'):F8.Sep own H' cs:=⟨h.1,fun k hk=>Nat.lt_of_lt_of_le (h.2 k hk) hH⟩
theorem F8.Sep.nil (own:Bool) (H:Nat):F8.Sep own H []:=⟨fun _=>by simp [F8.blks],by simp [F8.blks]⟩
structure F8.New (H H':Nat) (vl va:Value):Prop where
 l:∀ k,F8.blk vl = some k→H≤k∧k < H'
 a:∀ k,F8.blk va = some k→H≤k∧k < H'
 la:∀ k,F8.blk vl = some k→F8.blk va ≠ some k
theorem F8.Apart.snoc {H H':Nat} {cs:List Value} {vl va:Value} {s:ByteArray} (h:F8.Apart H cs) (n:F8.New H H' vl va) (hH:H≤H'):F8.Apart H' (cs ++ [vl,.string s,va]):=by
 unfold F8.Apart F8.blks
 rw [List.filterMap_append]
 have e:List.filterMap F8.blk [vl,.string s,va] = (F8.blk vl).toList ++ (F8.blk va).toList:=by
  have es:F8.blk (.string s) = none:=rfl
  cases h1:F8.blk vl <;> cases h2:F8.blk va <;> simp [List.filterMap_cons,h1,h2,es]
 rw [e]
 obtain ⟨hn,hl⟩:=h
 have hl':∀ k ∈ List.filterMap F8.blk cs,k < H:=hl
 have hn':(List.filterMap F8.blk cs).Nodup:=hn
 refine ⟨List.nodup_append.2 ⟨hn',?_,?_⟩,?_⟩
 ·cases h1:F8.blk vl with
  | none=>cases h2:F8.blk va <;> simp
  | some k1=>cases h2:F8.blk va with
   | none=>simp
   | some k2=>simp;intro e;exact n.la k1 h1 (by rw [h2,e])
 ·intro a ha b hb e
  subst e
  have:=hl' a ha
  rcases List.mem_append.1 hb with hb | hb
  ·have:=n.l a (by simpa using hb);omega
  ·have:=n.a a (by simpa using hb);omega
 ·intro k hk
  rcases List.mem_append.1 hk with hk | hk
  ·exact Nat.lt_of_lt_of_le (hl' k hk) hH
  ·rcases List.mem_append.1 hk with hk | hk
   ·exact (n.l k (by simpa using hk)).2
   ·exact (n.a k (by simpa using hk)).2
theorem F8.Sep.snoc {own:Bool} {H H':Nat} {cs:List Value} {vl va:Value} {s:ByteArray} (h:F8.Sep own H cs) (hl:∀ k,F8.blk vl = some k→k < H') (ha:∀ k,F8.blk va = some k→k < H') (n:own = true→F8.New H H' vl va) (hH:H≤H'):F8.Sep own H' (cs ++ [vl,.string s,va]):=by
 cases own with
 | true=>exact ⟨fun _=>((h.apart).snoc (s:=s) (n rfl) hH).1,((h.apart).snoc (s:=s) (n rfl) hH).2⟩
 | false=>
  refine ⟨(fun e=>by cases e),fun k hk=>?_⟩
  unfold F8.blks at hk
  rw [List.filterMap_append] at hk
  rcases List.mem_append.1 hk with hk | hk
  ·exact Nat.lt_of_lt_of_le (h.2 k hk) hH
  ·simp only [List.mem_filterMap,List.mem_cons,List.not_mem_nil,or_false] at hk
   obtain ⟨a,rfl | rfl | rfl,e⟩:=hk
   ·exact hl k e
   ·cases e
   ·exact ha k e
theorem OwnZ.blk_lt {base:Nat} {w:World} {v:Value} {l:List (List UInt8)} (h:OwnZ base w v l) {k:Nat} (hk:F8.blk v = some k):base≤k∧k < w.heap.size:=by
 rcases h with ⟨h1,h2⟩ | ⟨rfl,A,rfl⟩
 ·rcases h2 with ⟨rfl,_⟩ | ⟨g,cap,cur,rfl,hb',hh,rest⟩
  ·cases hk
  ·have:=F8.blk_own hk
   simp [Value.ownBlock] at this
   subst this
   exact ⟨hb',(Array.getElem?_eq_some_iff.1 hh).1⟩
 ·cases A <;> simp [F8.blk] at hk
theorem F8.Z.blk_lt {own:Bool} {B:Nat} {w:World} {v:Value} {l:List (List UInt8)} (h:F8.Z own B w v l) (hB:B≤w.heap.size) {k:Nat} (hk:F8.blk v = some k):k < w.heap.size:=by
 rcases h with h | ⟨_,h2,h3⟩
 ·exact (h.blk_lt hk).2
 ·obtain ⟨A,c,rfl⟩:=Rd.form h2
  unfold F8.blk at hk
  cases A with
  | none=>cases hk
  | some a=>
   dsimp only at hk
   split at hk
   ·cases hk
   ·rename_i hn
    obtain ⟨_,A',c',e,_,_,h4⟩:=h2
    obtain ⟨g,off,e2,hg,_⟩:=h4 (by omega)
    injection e with e _ _
    rw [e2] at e
    injection e with e
    subst e
    injection hk with hk
    subst hk
    exact hg
def F8.opc (l:F8.Opn):List Value:=l.reverse.flatMap fun p=>[Value.string ⟨p.1.toArray⟩,.string ⟨p.2.toArray⟩]
theorem F8.opc_len (l:F8.Opn):(F8.opc l).length = l.length * 2:=by
 have:=flat_length (fun p:List UInt8 × List UInt8=>[Value.string ⟨p.1.toArray⟩,.string ⟨p.2.toArray⟩]) 2 (fun _=>rfl) l.reverse
 rw [List.length_reverse] at this
 exact this
theorem F8.opc_cons (p:List UInt8 × List UInt8) (r:F8.Opn):F8.opc (p :: r) = F8.opc r ++ [.string ⟨p.1.toArray⟩,.string ⟨p.2.toArray⟩]:=by simp [F8.opc]
structure F8.Mk (own:Bool) (TM TL TO:TypeId) (B:Nat) (W:World) (gm H:Nat) (S:F8.St):Prop where
 size:B≤W.heap.size
 ge:B≤gm
 le:H≤W.heap.size
 obj:∃ vo vp cs,Bk W gm TM #[vo,vp,.int .i64 (S.made:Int)]∧W.ownsRow B TL 3 vo S.out.length cs∧F8.Ls (F8.Z own B W) S.out cs∧W.ownsRow B TO 2 vp S.opn.length (F8.opc S.opn)∧F8.Sep own H cs
theorem F8.Mk.kept {own:Bool} {TM TL TO:TypeId} {B:Nat} {W W':World} {gm H:Nat} {S:F8.St} (h:F8.Mk own TM TL TO B W gm H S) (hb:Below W.heap.size W W'):F8.Mk own TM TL TO B W' gm H S:=by
 obtain ⟨vo,vp,cs,h1,h2,h3,h4,h5⟩:=h.obj
 exact ⟨Nat.le_trans h.size hb.size,h.ge,Nat.le_trans h.le hb.size,⟨vo,vp,cs,h1.kept hb,own_kept h2 hb,h3.map fun _ _ hz=>hz.stay (F8.Stay.of hb h.size h1.lt),own_kept h4 hb,h5⟩⟩
theorem F8.Mk.later {own:Bool} {TM TL TO:TypeId} {B:Nat} {W:World} {gm H H':Nat} {S:F8.St} (h:F8.Mk own TM TL TO B W gm H S) (hH:H≤H') (hs:H'≤W.heap.size):F8.Mk own TM TL TO B W gm H' S:=by
 obtain ⟨vo,vp,cs,h1,h2,h3,h4,h5⟩:=h.obj
 exact ⟨h.size,h.ge,hs,⟨vo,vp,cs,h1,h2,h3,h4,h5.mono hH⟩⟩
structure F8.Unlike (TM TL TO:TypeId):Prop where
 ml:TM ≠ TL
 mo:TM ≠ TO
 lo:TL ≠ TO
 ms:TM ≠ 9
 ls:TL ≠ 9
 os:TO ≠ 9
theorem F8.Mk.put {own:Bool} {TM TL TO:TypeId} (U:F8.Unlike TM TL TO) {B:Nat} {W W':World} {gm H:Nat} {S:F8.St} {vo vp v' vl va:Value} {cs:List Value} {x:L6.Line} (hge:B≤gm)
  (hs0:B≤W.heap.size) (h1:Bk W gm TM #[vo,vp,.int .i64 (S.made:Int)]) (h2:W.ownsRow B TL 3 vo S.out.length cs) (h3:F8.Ls (F8.Z own B W) S.out cs) (h4:W.ownsRow B TO 2 vp S.opn.length (F8.opc S.opn)) (h5:F8.Sep own H cs)
  (hl:F8.Z own B W vl x.labels) (ha:F8.Z own B W va x.args) (hn:own = true→F8.New H W.heap.size vl va) (hH:H≤W.heap.size) (ho:W'.ownsRow B TL 3 v' (S.out.length+1) (cs ++ [vl,.string ⟨x.word.toArray⟩,va])) (hb:Below B W W') (hg:W.grownBy W' vo.ownBlock) (hv:F8.Where vo v' W.heap.size) :
  Bk W' gm TM #[vo,vp,.int .i64 (S.made:Int)]∧F8.Mk own TM TL TO B (W'.setCell ⟨gm,0,none⟩ v') gm W.heap.size ⟨S.out ++ [x],S.opn,S.made⟩∧F8.Stay gm B W (W'.setCell ⟨gm,0,none⟩ v'):=by
 have hk:=bk_other U.ml h2 hg h1
 have hk2:Bk (W'.setCell ⟨gm,0,none⟩ v') gm TM #[v',vp,.int .i64 (S.made:Int)]:=by
  have:=hk.set 0 v'
  simpa using this
 have hst:F8.Stay gm B W (W'.setCell ⟨gm,0,none⟩ v'):=F8.stay_set h1 hg hk (own_ne h2 h1 U.ml) (fun g cs hbk=>own_ne h2 hbk (Ne.symm U.ls)) U.ms (fun g hf=>hf.2.1 vo (h1.cell 0)) hb hge 0 v'
  (fun g hl hf=>⟨hf.1,(fun v hv0 e=>by
   have e0:v = v':=by have:=(hk2.cell 0).symm.trans hv0;simpa using this.symm
   subst e0
   rcases hv g e with e | e
   ·exact hf.2.1 vo (h1.cell 0) e
   ·omega),(fun v hv0=>by
   have e0:v = vp:=by have:=(hk2.cell 1).symm.trans hv0;simpa using this.symm
   subst e0
   exact hf.2.2 v (h1.cell 1))⟩)
 have hbut:But gm W' (W'.setCell ⟨gm,0,none⟩ v'):=But.setCell _ _ _ _
 refine ⟨hk,⟨Nat.le_trans hs0 hst.below.size,hge,hst.below.size,⟨v',vp,_,hk2,own_but (by simpa using ho) hk U.ml hbut,?_,own_but (own_other (Ne.symm U.lo) h2 hg h4) hk U.mo hbut,h5.snoc (fun k hk=>hl.blk_lt hs0 hk) (fun k hk=>ha.blk_lt hs0 hk) hn hH⟩⟩,hst⟩
 exact F8.Ls.snoc (hl.stay hst) (ha.stay hst) (h3.map fun _ _ hz=>hz.stay hst)
theorem F8.Mk.push {own:Bool} {TM TL TO:TypeId} (U:F8.Unlike TM TL TO) {B:Nat} {W W':World} {gm H:Nat} {S:F8.St} {vo vp v':Value} {cs:List Value} {p:List UInt8 × List UInt8} (hge:B≤gm)
  (hs0:B≤W.heap.size) (hH:H≤W.heap.size) (h1:Bk W gm TM #[vo,vp,.int .i64 (S.made:Int)]) (h2:W.ownsRow B TL 3 vo S.out.length cs) (h3:F8.Ls (F8.Z own B W) S.out cs) (h4:W.ownsRow B TO 2 vp S.opn.length (F8.opc S.opn)) (h5:F8.Sep own H cs)
  (ho:W'.ownsRow B TO 2 v' (S.opn.length+1) (F8.opc S.opn ++ [.string ⟨p.1.toArray⟩,.string ⟨p.2.toArray⟩])) (hb:Below B W W') (hg:W.grownBy W' vp.ownBlock) (hv:F8.Where vp v' W.heap.size) :
  Bk W' gm TM #[vo,vp,.int .i64 (S.made:Int)]∧F8.Mk own TM TL TO B (W'.setCell ⟨gm,1,none⟩ v') gm H ⟨S.out,p :: S.opn,S.made⟩∧F8.Stay gm B W (W'.setCell ⟨gm,1,none⟩ v'):=by
 have hk:=bk_other U.mo h4 hg h1
 have hk2:Bk (W'.setCell ⟨gm,1,none⟩ v') gm TM #[vo,v',.int .i64 (S.made:Int)]:=by
  have:=hk.set 1 v'
  simpa using this
 have hst:F8.Stay gm B W (W'.setCell ⟨gm,1,none⟩ v'):=F8.stay_set h1 hg hk (own_ne h4 h1 U.mo) (fun g cs hbk=>own_ne h4 hbk (Ne.symm U.os)) U.ms (fun g hf=>hf.2.2 vp (h1.cell 1)) hb hge 1 v'
  (fun g hl hf=>⟨hf.1,(fun v hv0=>by
   have e0:v = vo:=by have:=(hk2.cell 0).symm.trans hv0;simpa using this.symm
   subst e0
   exact hf.2.1 v (h1.cell 0)),(fun v hv0 e=>by
   have e0:v = v':=by have:=(hk2.cell 1).symm.trans hv0;simpa using this.symm
   subst e0
   rcases hv g e with e | e
   ·exact hf.2.2 vp (h1.cell 1) e
   ·omega)⟩)
 have hbut:But gm W' (W'.setCell ⟨gm,1,none⟩ v'):=But.setCell _ _ _ _
 exact ⟨hk,⟨Nat.le_trans hs0 hst.below.size,hge,Nat.le_trans hH hst.below.size,⟨vo,v',cs,hk2,own_but (own_other U.lo h4 hg h2) hk U.ml hbut,h3.map fun _ _ hz=>hz.stay hst,own_but (by simpa [F8.opc_cons] using ho) hk U.mo hbut,h5⟩⟩,hst⟩
theorem F8.Mk.set {own:Bool} {TM TL TO:TypeId} (U:F8.Unlike TM TL TO) {B:Nat} {W:World} {gm H:Nat} {S S':F8.St} {vo vp vp':Value} {cs:List Value} (hge:B≤gm) (hs0:B≤W.heap.size) (hH:H≤W.heap.size)
  (h1:Bk W gm TM #[vo,vp,.int .i64 (S.made:Int)]) (h2:W.ownsRow B TL 3 vo S.out.length cs) (h3:F8.Ls (F8.Z own B W) S.out cs) (h5:F8.Sep own H cs) (i:Nat) (u:Value)
  (hS:S'.out = S.out) (he:(#[vo,vp,Value.int .i64 (S.made:Int)]:Array Value).setIfInBounds i u = #[vo,vp',.int .i64 (S'.made:Int)]) (h4:W.ownsRow B TO 2 vp' S'.opn.length (F8.opc S'.opn)) (hv:∀ k,vp'.ownBlock = some k→vp.ownBlock = some k) :
  F8.Mk own TM TL TO B (W.setCell ⟨gm,i,none⟩ u) gm H S'∧F8.Stay gm B W (W.setCell ⟨gm,i,none⟩ u):=by
 have hk2:Bk (W.setCell ⟨gm,i,none⟩ u) gm TM #[vo,vp',.int .i64 (S'.made:Int)]:=by
  have:=h1.set i u
  rwa [he] at this
 have hst:F8.Stay gm B W (W.setCell ⟨gm,i,none⟩ u):=F8.stay_set (row:=none) h1 ⟨rfl,rfl,rfl,Nat.le_refl _,fun _ _ _=>rfl⟩ h1 (by simp) (fun _ _ _=>by simp) U.ms (fun _ _=>by simp) (Below.refl _ _) hge i u
  (fun g hl hf=>⟨hf.1,(fun v hv0=>by
   have e0:v = vo:=by have:=(hk2.cell 0).symm.trans hv0;simpa using this.symm
   subst e0
   exact hf.2.1 v (h1.cell 0)),(fun v hv0 e=>by
   have e0:v = vp':=by have:=(hk2.cell 1).symm.trans hv0;simpa using this.symm
   subst e0
   exact hf.2.2 vp (h1.cell 1) (hv g e))⟩)
 have hbut:But gm W (W.setCell ⟨gm,i,none⟩ u):=But.setCell _ _ _ _
 refine ⟨⟨Nat.le_trans hs0 hst.below.size,hge,Nat.le_trans hH hst.below.size,⟨vo,vp',cs,hk2,own_but (by rw [hS];exact h2) h1 U.ml hbut,?_,own_but h4 h1 U.mo hbut,h5⟩⟩,hst⟩
 rw [hS]
 exact h3.map fun _ _ hz=>hz.stay hst
theorem F8.Mk.free {own:Bool} {TM TL TO:TypeId} {B:Nat} {W W':World} {gm H:Nat} {S:F8.St} (h:F8.Mk own TM TL TO B W gm H S) (hb:Below W.heap.size W W') {g:Nat} (hg:W.heap.size≤g):F8.Free gm W' g:=by
 obtain ⟨vo,vp,cs,h1,h2,h3,h4,h5⟩:=h.obj
 have hk:=h1.kept hb
 refine ⟨by have:=h1.lt;omega,fun v hv e=>?_,fun v hv e=>?_⟩
 ·have e0:v = vo:=by have:=(hk.cell 0).symm.trans hv;simpa using this.symm
  subst e0
  have:=own_lt h2 e
  omega
 ·have e0:v = vp:=by have:=(hk.cell 1).symm.trans hv;simpa using this.symm
  subst e0
  have:=own_lt h4 e
  omega
theorem F8.Mk.lt {own:Bool} {TM TL TO:TypeId} {B:Nat} {W:World} {gm H:Nat} {S:F8.St} (h:F8.Mk own TM TL TO B W gm H S):gm < W.heap.size:=by
 obtain ⟨vo,vp,cs,h1,_⟩:=h.obj
 exact h1.lt
theorem F8.Stay.bk {gm B:Nat} {w w':World} (h:F8.Stay gm B w w') {g:Nat} {t:TypeId} {cs:Array Value} (hk:Bk w g t cs) (hf:F8.Free gm w g):Bk w' g t cs∧F8.Free gm w' g:=by
 obtain ⟨e,f⟩:=h.keep g hk.lt hf
 exact ⟨e.trans hk,f⟩
theorem F8.Mk.roomAt {own:Bool} {TM TL TO:TypeId} (U:F8.Unlike TM TL TO) {P:Program} {TS:TypeId} (rt:RowTy P TS TL 3 64) {B:Nat} {W:World} {gm H:Nat} {S:F8.St} (h:F8.Mk own TM TL TO B W gm H S) (x:L6.Line) {vl va:Value}
  (hl:F8.Z own B W vl x.labels) (ha:F8.Z own B W va x.args) (hn:own = true→F8.New H W.heap.size vl va) :
  ∃ A c cs,W.cell? ⟨gm,0,none⟩ = some (.slice A S.out.length c)∧W.frozen? ⟨gm,0,none⟩ = false∧(∀ W',Below W.heap.size W W'→W'.cell? ⟨gm,0,none⟩ = some (.slice A S.out.length c)) ∧
   ∀ Wa,Below W.heap.size W Wa→Wa.heap.size = W.heap.size+1→Bk Wa W.heap.size TL #[vl,.string ⟨x.word.toArray⟩,va] →
   Wa.ownsRow B TL 3 (.slice A S.out.length c) S.out.length cs ∧
   Src P 3 TS (.slice (some ⟨W.heap.size,0,none⟩) 1 1) 1 [vl,.string ⟨x.word.toArray⟩,va] Wa∧B≤Wa.heap.size ∧
   ∀ v' w',w'.ownsRow B TL 3 v' (S.out.length+1) (cs ++ [vl,.string ⟨x.word.toArray⟩,va])→Below B Wa w'→Wa.grownBy w' (Value.slice A S.out.length c).ownBlock→F8.Where (Value.slice A S.out.length c) v' Wa.heap.size →
    (∃ A' c',v' = .slice A' (S.out.length+1) c')∧w'.cell? ⟨gm,0,none⟩ = some (.slice A S.out.length c)∧w'.frozen? ⟨gm,0,none⟩ = false∧Hid (F8.Mk own TM TL TO B (w'.setCell ⟨gm,0,none⟩ v') gm (W.heap.size+1) ⟨S.out ++ [x],S.opn,S.made⟩∧F8.Stay gm B W (w'.setCell ⟨gm,0,none⟩ v')):=by
 obtain ⟨vo,vp,cs,h1,h2,h3,h4,h5⟩:=h.obj
 obtain ⟨A,c,rfl⟩:=(Rd.of_own h2).form
 obtain ⟨A1,c1,e1⟩:=hl.form
 obtain ⟨A2,c2,e2⟩:=ha.form
 refine ⟨A,c,cs,h1.cell 0,h1.free 0,fun W' hb=>(h1.kept hb).cell 0,fun Wa hal hsz hbk=>?_⟩
 have hst:F8.Stay gm B W Wa:=F8.Stay.of hal h.size h1.lt
 refine ⟨own_kept h2 hal,Rd.src rt (Rd.built hbk rfl) ?_,by rw [hsz];exact Nat.le_succ_of_le h.size,?_⟩
 ·intro u hu
  simp only [List.mem_cons,List.not_mem_nil,or_false] at hu
  rcases hu with rfl | rfl | rfl
  ·rw [e1];rfl
  ·rfl
  ·rw [e2];rfl
 ·intro v' w' ho hb hg hv
  obtain ⟨hk,hm,hs⟩:=F8.Mk.put U h.ge (by rw [hsz];exact Nat.le_succ_of_le h.size) (h1.kept hal) (own_kept h2 hal) (h3.map fun _ _ hz=>hz.stay hst) (own_kept h4 hal) h5 (hl.stay hst) (ha.stay hst)
   (fun e=>⟨fun k hk=>⟨((hn e).l k hk).1,by have:=((hn e).l k hk).2;omega⟩,fun k hk=>⟨((hn e).a k hk).1,by have:=((hn e).a k hk).2;omega⟩,(hn e).la⟩) (by have:=h.le;omega) ho hb hg hv
  rw [hsz] at hm
  exact ⟨(Rd.of_own ho).form,hk.cell 0,hk.free 0,Lib.hid ⟨hm,hst.trans hs⟩⟩
theorem F8.Mk.room {own:Bool} {TM TL TO:TypeId} (U:F8.Unlike TM TL TO) {P:Program} {TS:TypeId} (rt:RowTy P TS TL 3 64) {B:Nat} {W:World} {gm H:Nat} {S:F8.St} (h:F8.Mk own TM TL TO B W gm H S) (x:L6.Line) {vl va:Value}
  (hl:F8.Z own B W vl x.labels) (ha:F8.Z own B W va x.args) (hn:own = true→F8.New H W.heap.size vl va) :
  ∃ A c cs,W.cell? ⟨gm,0,none⟩ = some (.slice A S.out.length c)∧W.frozen? ⟨gm,0,none⟩ = false∧(∀ W',Below W.heap.size W W'→W'.cell? ⟨gm,0,none⟩ = some (.slice A S.out.length c)) ∧
   (W.drew.alloc (.cells #[vl,.string ⟨x.word.toArray⟩,va] TL)).ownsRow B TL 3 (.slice A S.out.length c) S.out.length cs ∧
   Src P 3 TS (.slice (some ⟨W.heap.size,0,none⟩) 1 1) 1 [vl,.string ⟨x.word.toArray⟩,va] (W.drew.alloc (.cells #[vl,.string ⟨x.word.toArray⟩,va] TL))∧B≤(W.drew.alloc (.cells #[vl,.string ⟨x.word.toArray⟩,va] TL)).heap.size ∧
   ∀ v' w',w'.ownsRow B TL 3 v' (S.out.length+1) (cs ++ [vl,.string ⟨x.word.toArray⟩,va])→Below B (W.drew.alloc (.cells #[vl,.string ⟨x.word.toArray⟩,va] TL)) w'→(W.drew.alloc (.cells #[vl,.string ⟨x.word.toArray⟩,va] TL)).grownBy w' (Value.slice A S.out.length c).ownBlock→F8.Where (Value.slice A S.out.length c) v' (W.drew.alloc (.cells #[vl,.string ⟨x.word.toArray⟩,va] TL)).heap.size →
    (∃ A' c',v' = .slice A' (S.out.length+1) c')∧w'.cell? ⟨gm,0,none⟩ = some (.slice A S.out.length c)∧w'.frozen? ⟨gm,0,none⟩ = false∧Hid (F8.Mk own TM TL TO B (w'.setCell ⟨gm,0,none⟩ v') gm (W.heap.size+1) ⟨S.out ++ [x],S.opn,S.made⟩∧F8.Stay gm B W (w'.setCell ⟨gm,0,none⟩ v')):=by
 obtain ⟨A,c,cs,h1,h2,h3,h4⟩:=F8.Mk.roomAt U rt h x hl ha hn
 obtain ⟨e1,e2,e3,e4⟩:=h4 (W.drew.alloc (.cells #[vl,.string ⟨x.word.toArray⟩,va] TL)) ((Below.refl _ _).drew.alloc (Nat.le_refl _) _) (by simp) (Bk.fresh W.drew _ _)
 exact ⟨A,c,cs,h1,h2,h3,e1,e2,e3,e4⟩
theorem F8.Mk.room0 {own:Bool} {TM TL TO:TypeId} (U:F8.Unlike TM TL TO) {P:Program} {TS:TypeId} (rt:RowTy P TS TL 3 64) {B:Nat} {W:World} {gm H:Nat} {S:F8.St} (h:F8.Mk own TM TL TO B W gm H S) (x:L6.Line) {vl va:Value}
  (hl:F8.Z own B W vl x.labels) (ha:F8.Z own B W va x.args) (hn:own = true→F8.New H W.heap.size vl va) :
  ∃ A c cs,W.cell? ⟨gm,0,none⟩ = some (.slice A S.out.length c)∧W.frozen? ⟨gm,0,none⟩ = false∧(∀ W',Below W.heap.size W W'→W'.cell? ⟨gm,0,none⟩ = some (.slice A S.out.length c)) ∧
   (W.alloc (.cells #[vl,.string ⟨x.word.toArray⟩,va] TL)).ownsRow B TL 3 (.slice A S.out.length c) S.out.length cs ∧
   Src P 3 TS (.slice (some ⟨W.heap.size,0,none⟩) 1 1) 1 [vl,.string ⟨x.word.toArray⟩,va] (W.alloc (.cells #[vl,.string ⟨x.word.toArray⟩,va] TL))∧B≤(W.alloc (.cells #[vl,.string ⟨x.word.toArray⟩,va] TL)).heap.size ∧
   ∀ v' w',w'.ownsRow B TL 3 v' (S.out.length+1) (cs ++ [vl,.string ⟨x.word.toArray⟩,va])→Below B (W.alloc (.cells #[vl,.string ⟨x.word.toArray⟩,va] TL)) w'→(W.alloc (.cells #[vl,.string ⟨x.word.toArray⟩,va] TL)).grownBy w' (Value.slice A S.out.length c).ownBlock→F8.Where (Value.slice A S.out.length c) v' (W.alloc (.cells #[vl,.string ⟨x.word.toArray⟩,va] TL)).heap.size →
    (∃ A' c',v' = .slice A' (S.out.length+1) c')∧w'.cell? ⟨gm,0,none⟩ = some (.slice A S.out.length c)∧w'.frozen? ⟨gm,0,none⟩ = false∧Hid (F8.Mk own TM TL TO B (w'.setCell ⟨gm,0,none⟩ v') gm (W.heap.size+1) ⟨S.out ++ [x],S.opn,S.made⟩∧F8.Stay gm B W (w'.setCell ⟨gm,0,none⟩ v')):=by
 obtain ⟨A,c,cs,h1,h2,h3,h4⟩:=F8.Mk.roomAt U rt h x hl ha hn
 obtain ⟨e1,e2,e3,e4⟩:=h4 (W.alloc (.cells #[vl,.string ⟨x.word.toArray⟩,va] TL)) ((Below.refl _ _).alloc (Nat.le_refl _) _) (by simp) (Bk.fresh W _ _)
 exact ⟨A,c,cs,h1,h2,h3,e1,e2,e3,e4⟩
theorem step_appendRB {P:Program} {w:World} {ops:Array Oper} {o:Oper} {a:Act} {K:Act→World→Prop} {Q:Exit→Act→World→Prop} {E:Prop} (hgd:o.guard = none) (s x:Operand) (t tx:TypeId)
  (ho:o.op = .call { callee:=.builtin .append,args:=#[s,x],argTypes:=#[t,tx] }) {e:TypeId} {size bytes:Nat} (rt:RowTy P t e size bytes) (hsz:0 < size) (base:Nat) (v:Value) (hs:a.eval s = v) (n:Nat) (xs:List Value)
  (hown:w.ownsRow base e size v n xs) (vx:Value) (hx:a.eval x = vx) (m:Nat) (news:List Value) (hsrc:Src P size tx vx m news w) (hlen:(n+m) * bytes≤140737488355328) (h63:n+m≤maxLen) (hbase:base≤w.heap.size)
  (h:∀ v' w',w'.ownsRow base e size v' (n+m) (xs ++ news)→Below base w w'→w.grownBy w' v.ownBlock→F8.Where v v' w.heap.size→K (a.put o.dst v') w') :
  if Region.wanted o (yielded ops a.tmps) = true then Oper.wp P o a w K Q else E:=by
 have hw:Region.wanted o (yielded ops a.tmps) = true:=by simp [Region.wanted,hgd]
 rw [if_pos hw]
 obtain ⟨v',w',hr,h2,h3,h4,h5⟩:=run_appendRB (P:=P) w tx o.type rt hsz base v n xs hown vx m news hsrc hlen h63 hbase
 unfold Oper.wp execOp
 simp only [ho,resolve,invoke,builtin,Sem.run_bind,Sem.run_pure,Result.andThen_ok,List.map_toArray,List.map_cons,List.map_nil,hs,hx,hr]
 exact h v' w' h2 h3 h4 h5
theorem own_shrink {w:World} {base:Nat} {e:TypeId} {size:Nat} {A:Option Addr} {n c:Nat} {xs:List Value} (h:w.ownsRow base e size (.slice A (n+1) c) (n+1) xs):w.ownsRow base e size (.slice A n c) n (xs.take (n * size)):=by
 obtain ⟨h1,h2⟩:=h
 rcases h2 with ⟨h2,h0⟩ | ⟨g,cap,cur,e1,hb,hh,hnc,hcm,hcs,htake⟩
 ·omega
 ·have hle:n * size≤(n+1) * size:=Nat.mul_le_mul_right _ (Nat.le_succ n)
  injection e1 with e1 e2 e3
  subst e1 e3
  refine ⟨by rw [List.length_take,h1];omega,.inr ⟨g,c,cur,rfl,hb,hh,by omega,hcm,hcs,?_⟩⟩
  rw [← htake,List.take_take,Nat.min_eq_left hle]
theorem F8.own_pop {w:World} {base:Nat} {e:TypeId} {A:Option Addr} {n c:Nat} {p:List UInt8 × List UInt8} {r:F8.Opn} (h:w.ownsRow base e 2 (.slice A (n+1) c) (n+1) (F8.opc (p :: r))) (hn:r.length = n):w.ownsRow base e 2 (.slice A n c) n (F8.opc r):=by
 have:=own_shrink h
 rw [F8.opc_cons,List.take_append_of_le_length (by rw [F8.opc_len,hn];exact Nat.le_refl _),List.take_of_length_le (by rw [F8.opc_len,hn];exact Nat.le_refl _)] at this
 exact this
abbrev F8.MkO (B:Nat) (W:World) (gm H:Nat) (S:F8.St):Prop:=F8.Mk true 214 105 325 B W gm H S
theorem F8.uo:F8.Unlike 214 105 325:=by constructor <;> decide
theorem fort:RowTy Tryz.prog 212 325 2 32:=
 ⟨Tryz.underlying212,by
  have h:(Tryz.prog.info? 325).map (fun i=>(i.zero,i.size,i.bytes)) = some (some (.agg #[.string ByteArray.empty,.string ByteArray.empty]),2,32):=by kernel_rfl
  obtain ⟨i,h1,h2,h3,h4⟩:=info_parts h
  exact ⟨i,_,h1,h2,h3,h4,by kernel_rfl⟩⟩
theorem fret_sb {a a':List UInt8} {x y:Bool} (h1:a = a') (h2:x = y):Ending.returned (.tuple #[.string ⟨a.toArray⟩,.bool x]) = .returned (.tuple #[.string ⟨a'.toArray⟩,.bool y]):=by rw [h1,h2]
theorem fopp_any (c:List UInt8) (w:World):Calls Tryz.prog 170 #[.string ⟨c.toArray⟩] w fun e w'=>e = .returned (.tuple #[.string ⟨((F8.opp c).getD []).toArray⟩,.bool (F8.opp c).isSome])∧w = w':=by
 by_cases h1:c = [101,113]
 ·subst h1
  go_enter Tryz.func170,Tryz.ntmps170
  go_wp2
  go_ret2
  exact ⟨rfl,rfl⟩
 by_cases h2:c = [110,101]
 ·subst h2
  go_enter Tryz.func170,Tryz.ntmps170
  go_wp2
  go_ret2
  exact ⟨rfl,rfl⟩
 by_cases h3:c = [108,116]
 ·subst h3
  go_enter Tryz.func170,Tryz.ntmps170
  go_wp2
  go_ret2
  exact ⟨rfl,rfl⟩
 by_cases h4:c = [103,101]
 ·subst h4
  go_enter Tryz.func170,Tryz.ntmps170
  go_wp2
  go_ret2
  exact ⟨rfl,rfl⟩
 by_cases h5:c = [108,116,117]
 ·subst h5
  go_enter Tryz.func170,Tryz.ntmps170
  go_wp2
  go_ret2
  exact ⟨rfl,rfl⟩
 by_cases h6:c = [103,101,117]
 ·subst h6
  go_enter Tryz.func170,Tryz.ntmps170
  go_wp2
  go_ret2
  exact ⟨rfl,rfl⟩
 have HR:=Lib.hid (show F8.opp c = none by unfold F8.opp;rw [if_neg h1,if_neg h2,if_neg h3,if_neg h4,if_neg h5,if_neg h6])
 have e1:(c == [101,113]) = false:=by simpa using h1
 have e2:(c == [110,101]) = false:=by simpa using h2
 have e3:(c == [108,116]) = false:=by simpa using h3
 have e4:(c == [103,101]) = false:=by simpa using h4
 have e5:(c == [108,116,117]) = false:=by simpa using h5
 have e6:(c == [103,101,117]) = false:=by simpa using h6
 clear h1 h2 h3 h4 h5 h6
 go_enter Tryz.func170,Tryz.ntmps170
 go_wp2
 go_ret2
 exact ⟨fret_sb (by rw [HR.out];rfl) (by rw [HR.out];rfl),rfl⟩
def F8.TabB (B:Nat) (w:World):Prop:=L6.Tab w∧1 < B
theorem F8.TabB.below {B:Nat} {w w':World} (h:F8.TabB B w) (hb:Below B w w'):F8.TabB B w':=by
 obtain ⟨h,hB⟩:=h
 refine ⟨?_,hB⟩
 unfold L6.Tab Lib.TabIs at *
 unfold World.var? at *
 rw [L6.tab_named] at *
 simp only [Option.bind_some] at *
 rw [hb.block _ hB]
 exact h
theorem F8.tab_lt {w:World} (h:L6.Tab w):1 < w.heap.size:=by
 unfold L6.Tab Lib.TabIs at h
 unfold World.var? at h
 rw [L6.tab_named] at h
 simp only [Option.bind_some] at h
 cases hg:w.heap[1]? with
 | none=>rw [hg] at h;cases h
 | some o=>exact (Array.getElem?_eq_some_iff.1 hg).1
theorem F8.dec_len (n:Nat):(Lib.decDigits n).length≤n+1:=by
 induction n using Nat.strongRecOn with
 | ind n ih=>
  unfold Lib.decDigits
  split
  ·simp
  ·have:=ih (n / 10) (by omega)
   simp only [List.length_append,List.length_cons,List.length_nil]
   omega
theorem F8.lab_app (n:Nat):(⟨#[64]⟩:ByteArray) ++ ⟨(Lib.decDigits n).toArray⟩ = ⟨(F8.lab n).toArray⟩:=app_eq [64] (Lib.decDigits n)
set_option maxRecDepth 100000 in
set_option maxHeartbeats 1000000 in
theorem flabel_any {B gm H:Nat} {S:F8.St} (w:World) (h:F8.MkO B w gm H S) (hn:S.made≤100000) (hT:S.made < 100 ∨ F8.TabB B w) :
  Calls Tryz.prog 174 #[.pointer (some ⟨gm,0,none⟩)] w fun e w'=>e = .returned (.string ⟨(F8.lab S.made).toArray⟩)∧F8.MkO B w' gm H ⟨S.out,S.opn,S.made+1⟩∧F8.Stay gm B w w':=by
 obtain ⟨so,sp,sm⟩:=S
 dsimp only at *
 obtain ⟨vo,vp,cs,h1,h2,h3,h4,h5⟩:=h.obj
 dsimp only at h1 h2 h3 h4
 have hms:=F8.Mk.set F8.uo (S:=⟨so,sp,sm⟩) (S':=⟨so,sp,sm+1⟩) (vp':=vp) h.ge h.size h.le h1 h2 h3 h5 2 (.int .i64 ((sm:Int)+1)) rfl (by simp) h4 (fun _ h=>h)
 have c2:=h1.cell 2
 have f2:=h1.free 2
 have hw1:IntKind.i64.wrap ((sm:Int)+1) = (sm:Int)+1:=by rw [IntKind.wrap_i64];omega
 have hw2:IntKind.i64.wrap (sm:Int) = (sm:Int):=by rw [IntKind.wrap_i64];omega
 have hlen:¬ 9223372036854775807 < 1+(Lib.decDigits sm).length:=by have:=F8.dec_len sm;omega
 have HMS:=Lib.hid hms
 have CI:=Lib.hid (litoa_any sm (w.setCell ⟨gm,2,none⟩ (.int .i64 ((sm:Int)+1))) (by omega) (hT.imp id fun hT=>(hT.below hms.2.below).1))
 have HSZ:=Lib.hid h.size
 clear h h1 h2 h3 h4 h5 hms hT hn
 go_enter Tryz.func174,Tryz.ntmps174
 go_wp2_with (go_at_call 61;refine CI.out.mono ?_;rintro e w2 ⟨rfl,hb2⟩)
 go_ret
 exact ⟨congrArg (fun x=>Ending.returned (.string x)) (F8.lab_app sm),HMS.out.1.kept hb2,HMS.out.2.trans (F8.Stay.of hb2 HMS.out.1.size HMS.out.1.lt)⟩
theorem fcontains_any (v:Value) (ws:List (List UInt8)) (x:List UInt8) (w:World) (h:RdS w v ws) (hl:ws.length≤1000000000) :
  Calls Tryz.prog 233 #[v,.string ⟨x.toArray⟩] w fun e w'=>e = .returned (.bool (decide (x ∈ ws)))∧w = w':=by
 cases ws with
 | nil=>
  obtain ⟨A,c,rfl⟩:=h.nil_form
  exact (Tryz.slices_Contains_string_empty A c ⟨x.toArray⟩ w).mono fun e w' hh=>⟨by rw [hh.1];simp,hh.2.symm⟩
 | cons y t=>
  have hpos:0 < (y :: t).length:=by simp
  generalize y :: t = ys at *
  obtain ⟨hl1,A,c,rfl,h2,h3,h4⟩:=h
  obtain ⟨g,off,rfl,hg,hc⟩:=h4 hpos
  have:=Tryz.slices_Contains_string g off ys.length c (ys.map fun y=>(⟨y.toArray⟩:ByteArray)) ⟨x.toArray⟩ w (by simp) (by omega) (fun j hj=>by
   have hj':j < ys.length:=by simpa using hj
   rw [hc j (.string ⟨(ys[j]).toArray⟩) (by simp [L6.sv,hj'])]
   simp [List.getD,hj'])
  refine this.mono fun e w' hh=>⟨?_,hh.2.symm⟩
  rw [hh.1,List.take_of_length_le (by simp)]
  congr 2
  rw [Bool.eq_iff_iff,Lib.containsS_iff,decide_eq_true_iff,List.mem_map]
  constructor
  ·rintro ⟨a,ha,e⟩
   have:a = x:=by injection e with e;simpa using congrArg Array.toList e
   rwa [← this]
  ·exact fun hx=>⟨x,hx,rfl⟩
theorem F8.top_cells {w:World} {base:Nat} {e:TypeId} {v:Value} {p:List UInt8 × List UInt8} {r:F8.Opn} (h:w.ownsRow base e 2 v (p :: r).length (F8.opc (p :: r))) :
  ∃ g c,v = .slice (some ⟨g,0,none⟩) (r.length+1) c∧g < w.heap.size∧w.cell? ⟨g,r.length * 2,none⟩ = some (.string ⟨p.1.toArray⟩)∧w.cell? ⟨g,r.length * 2+1,none⟩ = some (.string ⟨p.2.toArray⟩)∧r.length+1≤c∧c≤maxLen:=by
 obtain ⟨h1,h2⟩:=h
 rcases h2 with ⟨_,h0⟩ | ⟨g,cap,cur,rfl,hb,hh,hnc,hcm,hcs,htake⟩
 ·simp at h0
 ·refine ⟨g,cap,by simp,(Array.getElem?_eq_some_iff.1 hh).1,?_,?_,by simpa using hnc,hcm⟩
  all_goals
   simp only [World.cell?,hh]
   rw [F8.opc_cons] at htake
   have hl:=F8.opc_len r
  ·have:(cur.toList.take ((p :: r).length * 2))[r.length * 2]? = some (.string ⟨p.1.toArray⟩):=by
    rw [htake,List.getElem?_append_right (by omega),hl];simp
   rw [List.getElem?_take,if_pos (by rw [List.length_cons];omega)] at this
   simpa using this
  ·have:(cur.toList.take ((p :: r).length * 2))[r.length * 2+1]? = some (.string ⟨p.2.toArray⟩):=by
    rw [htake,List.getElem?_append_right (by omega),hl];simp
   rw [List.getElem?_take,if_pos (by rw [List.length_cons];omega)] at this
   simpa using this
set_option maxRecDepth 100000 in
set_option maxHeartbeats 1000000 in
theorem fclose_none {B gm H:Nat} {S:F8.St} (w:World) (h:F8.MkO B w gm H S) (v:Value) (ws:List (List UInt8)) (hv:RdS w v ws) (hl:ws.length≤1000) (ho:S.opn.length≤100000) (hno:∀ x k r,S.opn = (x,k) :: r→x ∉ ws) :
  Calls Tryz.prog 176 #[.pointer (some ⟨gm,0,none⟩),v] w fun e w'=>e = .returned (.tuple #[.string ⟨#[]⟩,.bool false])∧w = w':=by
 obtain ⟨so,sp,sm⟩:=S
 dsimp only at *
 obtain ⟨vo,vp,cs,h1,h2,h3,h4,h5⟩:=h.obj
 dsimp only at h1 h2 h3 h4
 have c1:=h1.cell 1
 obtain ⟨A,c,rfl⟩:=hv.form
 cases sp with
 | nil=>
  obtain ⟨A2,c2,rfl⟩:=(Rd.of_own h4).form
  clear h h1 h2 h3 h4 h5 hv hno
  go_enter Tryz.func176,Tryz.ntmps176
  go_wp2_with fail
  go_ret2
  exact ⟨rfl,rfl⟩
 | cons p r=>
  obtain ⟨x,k⟩:=p
  obtain ⟨g,c2,rfl,hg,d0,d1,hc2,hc3⟩:=F8.top_cells h4
  have hx:decide (x ∈ ws) = false:=by simpa using hno x k r rfl
  have CC:=Lib.hid (fcontains_any _ ws x w hv (by omega))
  rw [hx] at CC
  have hw1:IntKind.i64.wrap (r.length:Int) = (r.length:Int):=by simp at ho;rw [IntKind.wrap_i64];omega
  have hlt:¬ ((r.length:Int) < 0):=by omega
  have hr0:(0:Int)≤(r.length:Int):=by omega
  have hr1:(r.length:Int) < ((r.length+1:Nat):Int):=by omega
  clear h h1 h2 h3 h4 h5 hv hno hx
  go_enter Tryz.func176,Tryz.ntmps176
  go_wp2_with (go_at_call 233;refine CC.out.mono ?_;rintro e w' ⟨rfl,rfl⟩)
  go_ret2
  exact ⟨rfl,rfl⟩
set_option maxRecDepth 100000 in
set_option maxHeartbeats 1000000 in
theorem fclose_some {B gm H:Nat} {so:List L6.Line} {r:F8.Opn} {sm:Nat} {x k:List UInt8} (w:World) (h:F8.MkO B w gm H ⟨so,(x,k) :: r,sm⟩) (v:Value) (ws:List (List UInt8)) (hv:RdS w v ws) (hl:ws.length≤1000) (ho:r.length≤100000) (hx:x ∈ ws) :
  Calls Tryz.prog 176 #[.pointer (some ⟨gm,0,none⟩),v] w fun e w'=>e = .returned (.tuple #[.string ⟨k.toArray⟩,.bool true])∧F8.MkO B w' gm H ⟨so,r,sm⟩∧F8.Stay gm B w w':=by
 obtain ⟨vo,vp,cs,h1,h2,h3,h4,h5⟩:=h.obj
 dsimp only at h1 h2 h3 h4
 have c1:=h1.cell 1
 have f1:=h1.free 1
 obtain ⟨A,c,rfl⟩:=hv.form
 obtain ⟨g,c2,rfl,hg,d0,d1,hc2,hc3⟩:=F8.top_cells h4
 have HMS:=Lib.hid (F8.Mk.set F8.uo (S:=⟨so,(x,k) :: r,sm⟩) (S':=⟨so,r,sm⟩) (vp':=.slice (some ⟨g,0,none⟩) r.length c2) h.ge h.size h.le h1 h2 h3 h5 1 (.slice (some ⟨g,0,none⟩) r.length c2) rfl (by simp) (F8.own_pop h4 rfl) (fun _ h=>h))
 have hxd:decide (x ∈ ws) = true:=by simpa using hx
 have CC:=Lib.hid (fcontains_any _ ws x w hv (by omega))
 rw [hxd] at CC
 have hw1:IntKind.i64.wrap (r.length:Int) = (r.length:Int):=by rw [IntKind.wrap_i64];omega
 have hlt:¬ ((r.length:Int) < 0):=by omega
 have hr0:(0:Int)≤(r.length:Int):=by omega
 have hr1:(r.length:Int) < ((r.length+1:Nat):Int):=by omega
 have hr2:(r.length:Int)≤(c2:Int):=by omega
 clear h h1 h2 h3 h4 h5 hv hx hxd
 go_enter Tryz.func176,Tryz.ntmps176
 go_wp2_with (go_at_call 233;refine CC.out.mono ?_;rintro e w' ⟨rfl,rfl⟩)
 go_ret2
 exact ⟨rfl,HMS.out.1,HMS.out.2⟩
set_option maxRecDepth 100000 in
set_option maxHeartbeats 1000000 in
theorem fwait_any {B gm H:Nat} {S:F8.St} (w:World) (h:F8.MkO B w gm H S) (x k:List UInt8) (ho:S.opn.length≤100000) :
  Calls Tryz.prog 175 #[.pointer (some ⟨gm,0,none⟩),.string ⟨x.toArray⟩,.string ⟨k.toArray⟩] w fun e w'=>e = .returned (.tuple #[])∧F8.MkO B w' gm H ⟨S.out,(x,k) :: S.opn,S.made⟩∧F8.Stay gm B w w':=by
 obtain ⟨so,sp,sm⟩:=S
 dsimp only at *
 obtain ⟨vo,vp,cs,h1,h2,h3,h4,h5⟩:=h.obj
 dsimp only at h1 h2 h3 h4
 have c1:=h1.cell 1
 obtain ⟨A,c,rfl⟩:=(Rd.of_own h4).form
 have hal:Below w.heap.size w (w.alloc (.cells #[.string ⟨x.toArray⟩,.string ⟨k.toArray⟩] 325)):=(Below.refl _ _).alloc (Nat.le_refl _) _
 have hst:=F8.Stay.of hal h.size h.lt
 have HOW:=Lib.hid (own_kept h4 hal)
 have HSR:=Lib.hid (show Src Tryz.prog 2 212 (.slice (some ⟨w.heap.size,0,none⟩) 1 1) 1 [.string ⟨x.toArray⟩,.string ⟨k.toArray⟩] (w.alloc (.cells #[.string ⟨x.toArray⟩,.string ⟨k.toArray⟩] 325)) from
  Rd.src fort (Rd.built (Bk.fresh w _ #[.string ⟨x.toArray⟩,.string ⟨k.toArray⟩]) rfl) (by intro u hu;simp at hu;rcases hu with rfl | rfl <;> rfl))
 have HL1:=Lib.hid (show (sp.length+1) * 32≤140737488355328 by omega)
 have HL2:=Lib.hid (show sp.length+1≤maxLen by unfold maxLen;omega)
 have HZ:=Lib.hid (show B≤(w.alloc (.cells #[.string ⟨x.toArray⟩,.string ⟨k.toArray⟩] 325)).heap.size from Nat.le_trans h.size hal.size)
 have HP:=Lib.hid (fun v' w' ho hb hg hv=>F8.Mk.push F8.uo (own:=true) (S:=⟨so,sp,sm⟩) (p:=(x,k)) (W':=w') (v':=v') h.ge HZ.out (Nat.le_trans h.le hal.size) (h1.kept hal) (own_kept h2 hal) (h3.map fun _ _ hz=>hz.stay hst) (own_kept h4 hal) h5 ho hb hg hv)
 have HST:=Lib.hid hst
 clear h h1 h2 h3 h4 h5 hal hst
 go_enter Tryz.func175,Tryz.ntmps175
 go_wp2_with (at_builtin;refine wpList_appendRB rfl _ _ _ _ rfl fort (by decide) B _ rfl sp.length (F8.opc sp) HOW.out _ rfl 1 [.string ⟨x.toArray⟩,.string ⟨k.toArray⟩] HSR.out HL1.out HL2.out HZ.out ?_;intro v' w2 ho2 hb2 hg2 hv2;obtain ⟨A2,c2,rfl⟩:=(Rd.of_own ho2).form;obtain ⟨hk,hm⟩:=HP.out _ _ ho2 hb2 hg2 hv2;have d1:=hk.cell 1;have f1:=hk.free 1;have HM:=Lib.hid hm;clear ho2 hb2 hg2 hv2 hk hm)
 go_end0
 exact ⟨rfl,HM.out.1,HST.out.trans HM.out.2⟩
end Go.Proofs.YtpcpaoeajcjoiaaGreatDoor
