/- Texts joined, what is not reached left out. -/
import Derived.RangeFuncNested
import Derived.RangeFuncBound
import Derived.RangeFuncCalls
import Derived.RangeFuncLeaves
import Derived.Shelf.Abstract
import Derived.Shelf.RegionOpen
import Derived.WalkKit
import Derived.OwnWalkIn
import Derived.TacticsInMore
import Derived.LoopNIn
import Derived.LoopIn
import Derived.Test.YtpcpaoeajcjoiaaGreatDoorKA
set_option linter.unusedVariables false
set_option linter.unusedSimpArgs false
namespace Go.Proofs.YtpcpaoeajcjoiaaGreatDoor.Kit
open Go.RowKit Go.Shelf
theorem roomW (k:Nat):Fence.wide.room k:=fun d h=>by cases h
theorem roundAny {m m':Nat} {P:Program} {l:Nat} {f:FuncId} {tmps:Array Value} {assign body:Code} {w:World} {R:Ending→World→Prop}
  (h:RoundIn Fence.wide m P l f tmps assign body w R):RoundIn Fence.wide m' P l f tmps assign body w R:=⟨h.1,fun c cs _=>h.2 c cs (roomW _)⟩
theorem yieldAny {m m':Nat} {P:Program} {l:Nat} {args:Array Value} {W:World} {R:Ending→World→Prop} (h:YieldAt Fence.wide m P l args W R):YieldAt Fence.wide m' P l args W R:=by
 obtain ⟨fn,tmps,assign,body,hy,hR⟩:=h
 exact ⟨fn,tmps,assign,body,hy,roundAny hR⟩
structure Mid (A B:Nat) (w w':World):Prop where
 os:w'.os = w.os
 tape:w'.tape = w.tape
 output:w'.output = w.output
 size:w'.heap.size = w.heap.size
 block:∀ k,k < A ∨ B≤k→w'.heap[k]? = w.heap[k]?
theorem Mid.refl (A B:Nat) (w:World):Mid A B w w:=⟨rfl,rfl,rfl,rfl,fun _ _=>rfl⟩
theorem Mid.trans {A B:Nat} {a b c:World} (h:Mid A B a b) (k:Mid A B b c):Mid A B a c:=
 ⟨k.os.trans h.os,k.tape.trans h.tape,k.output.trans h.output,k.size.trans h.size,fun i hi=>(k.block i hi).trans (h.block i hi)⟩
theorem Mid.drew {A B:Nat} {a w:World} (h:Mid A B a w):Mid A B a w.drew:=⟨h.os,h.tape,h.output,h.size,h.block⟩
theorem Mid.setCell {A B:Nat} {a w:World} (h:Mid A B a w) (g i:Nat) (u:Value) (h1:A≤g) (h2:g < B):Mid A B a (w.setCell ⟨g,i,none⟩ u):=
 h.trans ⟨rfl,rfl,rfl,by simp [World.setCell],fun k hk=>Below.heap_setCell w _ u k (by show k ≠ g;omega)⟩
theorem Mid.putObj {A B:Nat} {a w:World} (h:Mid A B a w) (g:Nat) (o:Obj) (h1:A≤g) (h2:g < B):Mid A B a (w.putObj g o):=
 h.trans ⟨rfl,rfl,rfl,World.putObj_size,fun k hk=>World.putObj_heap_other (by omega)⟩
theorem Bk.put {w:World} {g l:Nat} {t:TypeId} {cs:Array Value} (h:Bk w g t cs) (o:Obj) (hne:g ≠ l):Bk (w.putObj l o) g t cs:=(World.putObj_heap_other hne).trans h
def rec_ (fn:FuncId) (tmps:Array Value) (ps:Array Tmp) (assign body:Code) (D:Nat) (st:LoopState) (pe:Option Code):Loop:=
 {state:=st,pending:=pe,fn,tmps,params:=ps,assign,body,defers:=D }
def RPost (l:Nat) (rec:LoopState→Option Code→Loop) (R:Ending→World→Prop):Exit→Act→World→Prop
 | .normal,_,w=>w.heap[l]? = some (.loop (rec .busy none))∧R (.returned (.bool true)) (w.putObj l (.loop (rec .ready none)))
 | .ret,_,w=>w.heap[l]? = some (.loop (rec .busy none))∧R (.returned (.bool false)) (w.putObj l (.loop (rec .done (some .ret))))
 | .exit id,_,w=>w.heap[l]? = some (.loop (rec .busy none))∧R (.returned (.bool false)) (w.putObj l (.loop (rec .done (some (.exit id)))))
 | .goto t,_,w=>w.heap[l]? = some (.loop (rec .busy none))∧R (.returned (.bool false)) (w.putObj l (.loop (rec .done (some (.goto t)))))
 | .panic _,_,_=>False
 | .outgrown,_,_=>False
theorem yield_at {n:Nat} {P:Program} {fn:FuncId} {tmps:Array Value} {ps:Array Tmp} {assign body:Code} {D l:Nat} {W:World} {vals:Array Value} {R:Ending→World→Prop}
  (hl:W.heap[l]? = some (.loop (rec_ fn tmps ps assign body D .ready none))) (hs:vals.size = ps.size)
  (a₁:Act) (hassign:∀ K:Act→World→Prop,K a₁ W→assign.wpIn (Fence.wide.inRound l) n P (Exit.then K (fun _ _ _=>False)) { tmps:=(ps.zip vals).foldl (fun t (p,v)=>t.setIfInBounds p v) tmps,defers:=[] } W)
  (hbody:body.wpIn (Fence.wide.inRound l) n P (RPost l (rec_ fn tmps ps assign body D) R) a₁ (W.putObj l (.loop (rec_ fn tmps ps assign body D .busy none)))) :
  YieldAt Fence.wide n P l vals W R:=by
 have hy:=run_yield (P:=P) (args:=vals) hl hs
 refine ⟨fn,_,assign,body,hy,roundIn_of_wpIn trivial ?_⟩
 refine hassign _ ⟨_,run_beginRound hl rfl,wpIn_mono hbody ?_⟩
 rintro e a₂ w₂ hp
 cases e with
 | normal=>exact ⟨_,_,run_endRound none hp.1,hp.2⟩
 | ret=>exact ⟨_,_,run_endRound (some .ret) hp.1,hp.2⟩
 | exit id=>exact ⟨_,_,run_endRound (some (.exit id)) hp.1,hp.2⟩
 | goto t=>exact ⟨_,_,run_endRound (some (.goto t)) hp.1,hp.2⟩
 | panic ch=>exact hp.elim
 | outgrown=>exact hp.elim
theorem range_at {n:Nat} {P:Program} {g:Operand} {ps:Array Tmp} {assign body:Code} {Q:Exit→Act→World→Prop} {a:Act} {w:World} {gf:Nat} {lb:Array Value}
  (hg:a.eval g = .func (.func gf) #[] lb) (eg:∀ args w,(callFunc gf args).run P w = .ok (.enter gf args) w) (Rn:FuncId→World→Prop) (Rs:FuncId→Code→World→Prop)
  (hcall:∀ fn,CallsIn Fence.wide (n - 1) P gf (#[.func (.yield (w.heap.size+1)) #[] #[]] ++ lb)
    ((w.alloc (.deferred (some []))).alloc (.loop (rec_ fn a.tmps ps assign body w.heap.size .ready none))) fun e W=>(∃ v,e = .returned v) ∧
   ((W.heap[w.heap.size+1]? = some (.loop (rec_ fn a.tmps ps assign body w.heap.size .ready none))∧Rn fn W) ∨
    ∃ c,W.heap[w.heap.size+1]? = some (.loop (rec_ fn a.tmps ps assign body w.heap.size .done (some c)))∧Rs fn c W))
  (hdone:∀ fn W,Rn fn W→Q .normal { a with defers:={ target:=.collected w.heap.size,args:=#[] } :: a.defers } (W.putObj (w.heap.size+1) (.loop (rec_ fn a.tmps ps assign body w.heap.size .exhausted none))))
  (hstop:∀ fn c W,Rs fn c W→c.wpIn Fence.wide n P Q { a with defers:={ target:=.collected w.heap.size,args:=#[] } :: a.defers } (W.putObj (w.heap.size+1) (.loop (rec_ fn a.tmps ps assign body w.heap.size .exhausted (some c))))) :
  (Code.rangeFunc g ps assign body).wpIn Fence.wide n P Q a w:=by
 refine wpIn_rangeFunc (F:=Fence.wide) ?_
 intro fn hfn
 have hro:Fence.wide.round = none:=rfl
 rw [hro]
 obtain ⟨W1,hW1⟩:∃ W1,(w.alloc (.deferred (some []))).alloc (.loop (rec_ fn a.tmps ps assign body w.heap.size .ready none)) = W1:=⟨_,rfl⟩
 have hc:=hcall fn
 rw [hW1] at hc
 refine ⟨w.heap.size+1,[{ target:=.collected w.heap.size,args:=#[] }],W1,{ target:=.fn (.func gf) lb,args:=#[.func (.yield (w.heap.size+1)) #[] #[]] },W1,gf,#[.func (.yield (w.heap.size+1)) #[] #[]] ++ lb,W1,?_⟩
 refine ⟨?_,?_,?_,?_,?_,?_⟩
 ·rw [← hW1];exact run_enterLoop_outer _ _ _ _ _
 ·simp only [resolve,hg]
  simp [go_sem]
 ·intro _ _;exact trivial
 ·simp [invoke,go_sem,eg]
 ·intro h;exact absurd h (by simp [Fence.wide])
 refine CallsIn.mono hc ?_
 ·rintro e W ⟨⟨v,rfl⟩,(⟨hl,hR⟩ | ⟨c,hl,hR⟩)⟩
  ·exact ⟨none,_,run_endLoop hl (by simp [rec_]),hdone fn W hR⟩
  ·exact ⟨some c,_,run_endLoop hl (by simp [rec_]),hstop fn c W hR⟩
end Go.Proofs.YtpcpaoeajcjoiaaGreatDoor.Kit
