/- Texts joined, what is not reached left out. -/
import Derived.Test.YtpcpaoeajcjoiaaGreatDoorDC
set_option linter.unusedVariables false
set_option linter.unusedSimpArgs false
namespace Go.Proofs.YtpcpaoeajcjoiaaGreatDoor
open Go.RowKit Go.Shelf Kit
attribute [local go_sem] Oper.semAt_some
attribute [-go_sem] Builtin.append_
def Dc.Post (w : World) (b : List UInt8) (heads : Nat) (e : Ending) (w' : World) : Prop :=
  Below w.heap.size w w' ∧
  ((¬ Dc.fits b heads ∧ e = .returned (.tuple #[.slice none 0 0, .int .i64 1])) ∨
   (Dc.fits b heads ∧ (∀ l, ¬ Dc.Good b heads l) ∧ e = .returned (.tuple #[.slice none 0 0, .int .i64 45])) ∨
   (Dc.fits b heads ∧ ∃ l l' v, Dc.Good b heads l ∧ l'.Perm l ∧ l'.Pairwise (fun x y => x.at_ < y.at_) ∧ e = .returned (.tuple #[v, .int .i64 0]) ∧ RdD w' v l' ∧ ∀ x, v.ownBlock = some x → w.heap.size ≤ x))
theorem Dc.rd_results {h:Nat} {i:Int} {v:Value} {X:World} (k0:X.cell? ⟨h,0,none⟩ = some v) (k1:X.cell? ⟨h+1,0,none⟩ = some (.int .i64 i)) {t:Array Value} (h2:t[4]? = some (.pointer (some ⟨h,0,none⟩))) (h3:t[5]? = some (.pointer (some ⟨h+1,0,none⟩))) :
  (results Tryz.f31 t).run Tryz.prog X = .ok (.tuple #[v,.int .i64 i]) X:=by
 simp [results,Tryz.f31,go_sem,h2,h3,k0,k1]
abbrev Dc.marks (bs:List Nat):List Deferred:=bs.map fun r=>{ target:=.collected r,args:=#[] }
theorem leaves_marks {n:Nat} {P:Program} {fn:Func} {tmps:Array Value} {R:Ending→World→Prop}:∀ (bs:List Nat) (W:World),(∀ r ∈ bs,W.heap[r]? = some (.deferred (some [])))→bs.Nodup →
  (∀ W':World,(∀ g,g ∉ bs→W'.heap[g]? = W.heap[g]?)→W'.heap.size = W.heap.size→W'.os = W.os→W'.tape = W.tape→W'.output = W.output→LeavesInM Fence.wide n P fn tmps R [] .returning W') →
  LeavesInM Fence.wide n P fn tmps R (Dc.marks bs) .returning W
 | [],W,_,_,h=>h W (fun _ _=>rfl) rfl rfl rfl rfl
 | r :: bs,W,hd,hn,h=>by
  obtain ⟨hr,hn'⟩:=List.nodup_cons.1 hn
  refine ⟨by simp,.inl ⟨r,_,rfl,run_takeDeferred (hd r List.mem_cons_self),?_⟩⟩
  refine leaves_marks bs _ (fun q hq=>(World.putObj_heap_other (fun e=>by subst e;exact hr hq)).trans (hd q (List.mem_cons_of_mem _ hq))) hn' ?_
  intro W' h1 h2 h3 h4 h5
  refine h W' (fun g hg=>?_) (h2.trans World.putObj_size) h3 h4 h5
  rw [List.mem_cons,not_or] at hg
  exact (h1 g hg.2).trans (World.putObj_heap_other hg.1)
theorem yield_at2 {n:Nat} {P:Program} {fn:FuncId} {tmps:Array Value} {ps:Array Tmp} {assign body:Code} {D l:Nat} {W:World} {vals:Array Value} {R:Ending→World→Prop}
  (hl:W.heap[l]? = some (.loop (rec_ fn tmps ps assign body D .ready none))) (hs:vals.size = ps.size)
  (a₁:Act) (W₁:World) (hl₁:W₁.heap[l]? = some (.loop (rec_ fn tmps ps assign body D .ready none))) (hassign:∀ K:Act→World→Prop,K a₁ W₁→assign.wpIn (Fence.wide.inRound l) n P (Exit.then K (fun _ _ _=>False)) { tmps:=(ps.zip vals).foldl (fun t (p,v)=>t.setIfInBounds p v) tmps,defers:=[] } W)
  (hbody:body.wpIn (Fence.wide.inRound l) n P (Kit.RPost l (rec_ fn tmps ps assign body D) R) a₁ (W₁.putObj l (.loop (rec_ fn tmps ps assign body D .busy none)))) :
  YieldAt Fence.wide n P l vals W R:=by
 have hy:=run_yield (P:=P) (args:=vals) hl hs
 refine ⟨fn,_,assign,body,hy,roundIn_of_wpIn trivial ?_⟩
 refine hassign _ ⟨_,run_beginRound hl₁ rfl,wpIn_mono hbody ?_⟩
 rintro e a₂ w₂ hp
 cases e with
 | normal=>exact ⟨_,_,run_endRound none hp.1,hp.2⟩
 | ret=>exact ⟨_,_,run_endRound (some .ret) hp.1,hp.2⟩
 | exit id=>exact ⟨_,_,run_endRound (some (.exit id)) hp.1,hp.2⟩
 | goto t=>exact ⟨_,_,run_endRound (some (.goto t)) hp.1,hp.2⟩
 | panic ch=>exact hp.elim
 | outgrown=>exact hp.elim
structure Dc.Ls (gl:Nat) (pre:List Dc.Wd) (bs:List Nat) (W:World):Prop where
 ls:∃ v,Bk W gl 67 #[v]∧W.ownsRow (gl+1) 76 7 v pre.length (pre.flatMap Dc.wenc)∧∀ x,v.ownBlock = some x→x ∉ bs
structure Dc.Out (w:World) (gm gb:Nat) (b:List UInt8) (hs:List (Nat × Nat)) (heads gr gl k:Nat) (pre:List Dc.Wd) (bs:List Nat) (W:World):Prop where
 r0:Bk W w.heap.size 67 #[.slice none 0 0]
 r1:Bk W (w.heap.size+1) 30 #[.int .i64 0]
 rd:Bk W gr 153 #[.pointer (some ⟨gm,0,none⟩)]
 ls:Dc.Ls gl pre bs W
 mem:OwnM W gm gb b hs
 most:pre.length≤4096
 at_:Dc.At b heads pre k
 ds:∀ r ∈ bs,gl < r∧W.heap[r]? = some (.deferred (some []))
 nd:bs.Nodup
 gr:w.heap.size+2≤gr∧gr < gl
 below:Below w.heap.size w W
theorem Dc.Out.kept {w:World} {gm gb:Nat} {b:List UInt8} {hs:List (Nat × Nat)} {heads gr gl k:Nat} {pre:List Dc.Wd} {bs:List Nat} {W W':World} (h:Dc.Out w gm gb b hs heads gr gl k pre bs W) (hb:Below W.heap.size W W'):Dc.Out w gm gb b hs heads gr gl k pre bs W':=by
 obtain ⟨r0,r1,rd,⟨v,l1,l2,l3⟩,m,mo,at_,ds,nd,gr,bl⟩:=h
 exact ⟨r0.kept hb,r1.kept hb,rd.kept hb,⟨v,l1.kept hb,own_kept l2 hb,l3⟩,m.kept hb,mo,at_,fun r hr=>⟨(ds r hr).1,(hb.block r (Array.getElem?_eq_some_iff.1 (ds r hr).2).1).trans (ds r hr).2⟩,nd,gr,bl.trans (hb.mono bl.size)⟩
theorem Dc.own_lt {W:World} {base:Nat} {e:TypeId} {size:Nat} {v:Value} {n:Nat} {xs:List Value} (h:W.ownsRow base e size v n xs) {x:Nat} (hx:v.ownBlock = some x):x < W.heap.size∧base≤x:=by
 obtain ⟨_,⟨rfl,_⟩ | ⟨g,cap,cur,rfl,hb,hg,_⟩⟩:=h
 ·simp [Value.ownBlock] at hx
 ·simp [Value.ownBlock] at hx
  subst hx
  exact ⟨(Array.getElem?_eq_some_iff.1 hg).1,hb⟩
theorem Dc.own_at2 {W W':World} {base:Nat} {e:TypeId} {size:Nat} {v:Value} {n:Nat} {xs:List Value} (h:W.ownsRow base e size v n xs) (hk:∀ x,v.ownBlock = some x→W'.heap[x]? = W.heap[x]?):W'.ownsRow base e size v n xs:=by
 obtain ⟨h1,⟨rfl,h2⟩ | ⟨g,cap,cur,rfl,hb,hg,h3⟩⟩:=h
 ·exact ⟨h1,.inl ⟨rfl,h2⟩⟩
 ·exact ⟨h1,.inr ⟨g,cap,cur,rfl,hb,(hk g rfl).trans hg,h3⟩⟩
structure Dc.Inn (w:World) (gm gb:Nat) (b:List UInt8) (hs:List (Nat × Nat)) (heads gr gl k:Nat) (bs:List Nat) (zc:Nat) (rec:LoopState→Option Code→Loop) (st:LoopState) (a last:Nat) (W:World):Prop where
 r0:Bk W w.heap.size 67 #[.slice none 0 0]
 r1:Bk W (w.heap.size+1) 30 #[.int .i64 0]
 rd:Bk W gr 153 #[.pointer (some ⟨gm,0,none⟩)]
 ls:∃ pre v,Bk W gl 67 #[v]∧W.ownsRow (gl+1) 76 7 v pre.length (pre.flatMap Dc.wenc)∧(∀ x,v.ownBlock = some x→x ∉ bs∧(x < zc ∨ zc+6≤x))∧pre.length≤4096∧Dc.In b heads pre k a last
 mem:OwnM W gm gb b hs
 cap:Dc.Cap gm (Dc.first b heads k) (k / 16) (k % 16) (zc+1) zc (zc+3) (zc+2) W
 ds:∀ r ∈ bs,(gl < r∧r < zc)∧W.heap[r]? = some (.deferred (some []))
 nd:bs.Nodup
 dd:W.heap[zc+4]? = some (.deferred (some []))
 rb:W.heap[zc+5]? = some (.loop (rec st none))
 gr:w.heap.size+2≤gr∧gr < gl∧gl < zc
 below:Below w.heap.size w W
structure Dc.Inx (w:World) (b:List UInt8) (heads gl:Nat) (bs:List Nat) (zc:Nat) (rec:LoopState→Option Code→Loop) (W:World):Prop where
 r0:Bk W w.heap.size 67 #[.slice none 0 0]
 r1:Bk W (w.heap.size+1) 30 #[.int .i64 45]
 bad:∀ l,¬ Dc.Good b heads l
 ds:∀ r ∈ bs,(gl < r∧r < zc)∧W.heap[r]? = some (.deferred (some []))
 nd:bs.Nodup
 dd:W.heap[zc+4]? = some (.deferred (some []))
 rb:W.heap[zc+5]? = some (.loop (rec .done (some .ret)))
 gr:w.heap.size+2≤gl
 below:Below w.heap.size w W
theorem Dc.Cap.kept {gm first list k bf br bk bl:Nat} {W W':World} (h:Dc.Cap gm first list k bf br bk bl W) (hk:∀ g,g = bf ∨ g = br ∨ g = bk ∨ g = bl→W'.heap[g]? = W.heap[g]?):Dc.Cap gm first list k bf br bk bl W':=by
 obtain ⟨c1,c2,c3,c4⟩:=h
 have key:∀ g,(g = bf ∨ g = br ∨ g = bk ∨ g = bl)→W'.cell? ⟨g,0,none⟩ = W.cell? ⟨g,0,none⟩:=fun g hg=>by simp [World.cell?,hk g hg]
 exact ⟨(key _ (.inl rfl)).trans c1,(key _ (.inr (.inl rfl))).trans c2,(key _ (.inr (.inr (.inl rfl)))).trans c3,(key _ (.inr (.inr (.inr rfl)))).trans c4⟩
theorem Dc.Inn.kept {w:World} {gm gb:Nat} {b:List UInt8} {hs:List (Nat × Nat)} {heads gr gl k:Nat} {bs:List Nat} {zc:Nat} {rec:LoopState→Option Code→Loop} {st:LoopState} {a last:Nat} {W W':World} (h:Dc.Inn w gm gb b hs heads gr gl k bs zc rec st a last W) (hb:Below W.heap.size W W') :
  Dc.Inn w gm gb b hs heads gr gl k bs zc rec st a last W':=by
 have hz:=(Array.getElem?_eq_some_iff.1 h.rb).1
 obtain ⟨r0,r1,rd,⟨pre,v,l1,l2,l3,l4,l5⟩,m,c,ds,nd,dd,rb,gr,bl⟩:=h
 exact ⟨r0.kept hb,r1.kept hb,rd.kept hb,⟨pre,v,l1.kept hb,own_kept l2 hb,l3,l4,l5⟩,m.kept hb,c.kept (fun g hg=>hb.block g (by omega)),fun r hr=>⟨(ds r hr).1,(hb.block r (Array.getElem?_eq_some_iff.1 (ds r hr).2).1).trans (ds r hr).2⟩,nd,
  (hb.block _ (by omega)).trans dd,(hb.block _ hz).trans rb,gr,bl.trans (hb.mono bl.size)⟩
theorem Below.putD {B:Nat} {a w:World} (h:Below B a w) (g:Nat) (o:Obj) (hg:B≤g):Below B a (w.putObj g o):=
 ⟨h.os,h.tape,h.output,by rw [World.putObj_size];exact h.size,fun k hk=>(World.putObj_heap_other (by omega)).trans (h.block k hk)⟩
theorem Dc.OwnM.put {W:World} {gm gb:Nat} {b:List UInt8} {hs:List (Nat × Nat)} {B:Nat} {w:World} (h0:OwnM w gm gb b hs) (hb:Below w.heap.size w W):OwnM W gm gb b hs:=h0.kept hb
theorem Dc.Inn.busy {w:World} {gm gb:Nat} {b:List UInt8} {hs:List (Nat × Nat)} {heads gr gl k:Nat} {bs:List Nat} {zc:Nat} {rec:LoopState→Option Code→Loop} {st st':LoopState} {a last:Nat} {W:World} (h:Dc.Inn w gm gb b hs heads gr gl k bs zc rec st a last W) (h0:OwnM w gm gb b hs) :
  Dc.Inn w gm gb b hs heads gr gl k bs zc rec st' a last (W.putObj (zc+5) (.loop (rec st' none))):=by
 have hz:=(Array.getElem?_eq_some_iff.1 h.rb).1
 obtain ⟨r0,r1,rd,⟨pre,v,l1,l2,l3,l4,l5⟩,m,c,ds,nd,dd,rb,gr,bl⟩:=h
 have hb:=Below.putD bl (zc+5) (.loop (rec st' none)) (by omega)
 exact ⟨r0.put _ (by omega),r1.put _ (by omega),rd.put _ (by omega),⟨pre,v,l1.put _ (by omega),Dc.own_at2 l2 (fun x hx=>World.putObj_heap_other (by have:=(l3 x hx).2;omega)),l3,l4,l5⟩,h0.kept hb,c.kept (fun g hg=>World.putObj_heap_other (by omega)),
  fun r hr=>⟨(ds r hr).1,(World.putObj_heap_other (by have:=(ds r hr).1;omega)).trans (ds r hr).2⟩,nd,(World.putObj_heap_other (by omega)).trans dd,World.putObj_heap_same hz,gr,hb⟩
theorem Dc.Inn.stop {w:World} {gm gb:Nat} {b:List UInt8} {hs:List (Nat × Nat)} {heads gr gl k:Nat} {bs:List Nat} {zc:Nat} {rec:LoopState→Option Code→Loop} {a last:Nat} {W:World} (h:Dc.Inn w gm gb b hs heads gr gl k bs zc rec .busy a last W) (hbad:∀ l,¬ Dc.Good b heads l) :
  ((W.setCell ⟨w.heap.size,0,none⟩ (.slice none 0 0)).setCell ⟨w.heap.size+1,0,none⟩ (.int .i64 45)).heap[zc+5]? = some (.loop (rec .busy none)) ∧
   Dc.Inx w b heads gl bs zc rec (((W.setCell ⟨w.heap.size,0,none⟩ (.slice none 0 0)).setCell ⟨w.heap.size+1,0,none⟩ (.int .i64 45)).putObj (zc+5) (.loop (rec .done (some .ret)))):=by
 obtain ⟨r0,r1,rd,⟨pre,v,l1,l2,l3,l4,l5⟩,m,c,ds,nd,dd,rb,gr,bl⟩:=h
 have a0:=r0.set 0 (.slice none 0 0)
 have a1:=(But.setCell W w.heap.size 0 (.slice none 0 0)).bk r1 (by omega)
 have b0:=(But.setCell _ (w.heap.size+1) 0 (.int .i64 45)).bk a0 (by omega)
 have b1:=a1.set 0 (.int .i64 45)
 have hx:∀ g,w.heap.size+2≤g→((W.setCell ⟨w.heap.size,0,none⟩ (.slice none 0 0)).setCell ⟨w.heap.size+1,0,none⟩ (.int .i64 45)).heap[g]? = W.heap[g]?:=fun g hg=>
  (Below.heap_setCell _ _ _ _ (by show g ≠ w.heap.size+1;omega)).trans (Below.heap_setCell _ _ _ _ (by show g ≠ w.heap.size;omega))
 have hrb:=(hx (zc+5) (by omega)).trans rb
 have hbl:Below w.heap.size w ((W.setCell ⟨w.heap.size,0,none⟩ (.slice none 0 0)).setCell ⟨w.heap.size+1,0,none⟩ (.int .i64 45)):=(bl.setCell (Nat.le_refl _) _).setCell (by simp) _
 refine ⟨hrb,Bk.put b0 _ (by omega),Bk.put b1 _ (by omega),hbad,fun r hr=>⟨(ds r hr).1,?_⟩,nd,?_,World.putObj_heap_same (Array.getElem?_eq_some_iff.1 hrb).1,by omega,Below.putD hbl _ _ (by omega)⟩
 ·exact (World.putObj_heap_other (by have:=(ds r hr).1;omega)).trans ((hx r (by have:=(ds r hr).1;omega)).trans (ds r hr).2)
 ·exact (World.putObj_heap_other (by omega)).trans ((hx _ (by omega)).trans dd)
theorem Dc.Inn.round {w:World} {gm gb:Nat} {b:List UInt8} {hs:List (Nat × Nat)} {heads gr gl k:Nat} {bs:List Nat} {zc:Nat} {rec:LoopState→Option Code→Loop} {a last lk:Nat} {X1 Z w6:World} (h:Dc.Inn w gm gb b hs heads gr gl k bs zc rec .busy a last X1) (h0:OwnM w gm gb b hs)
  {pre:List Dc.Wd} {x:Dc.Wd} {v v6:Value} (l1:Bk X1 gl 67 #[v]) (l2:X1.ownsRow (gl+1) 76 7 v pre.length (pre.flatMap Dc.wenc)) (l3:∀ x,v.ownBlock = some x→x ∉ bs∧(x < zc ∨ zc+6≤x)) (l4:pre.length < 4096) (l5:Dc.In b heads (pre ++ [x]) k lk a)
  (hbZ:Below X1.heap.size X1 Z) (ho6:w6.ownsRow (gl+1) 76 7 v6 (pre.length+1) (pre.flatMap Dc.wenc ++ Dc.wenc x)) (hg6:Z.grownBy w6 v.ownBlock) (hn6:∀ k,v6.ownBlock = some k→v.ownBlock = some k ∨ Z.heap.size≤k) :
  (w6.setCell ⟨gl,0,none⟩ v6).heap[zc+5]? = some (.loop (rec .busy none))∧Dc.Inn w gm gb b hs heads gr gl k bs zc rec .ready lk a ((w6.setCell ⟨gl,0,none⟩ v6).putObj (zc+5) (.loop (rec .ready none))) ∧
   ∀ g,g < X1.heap.size→g ≠ gl→g ≠ zc+5→v.ownBlock ≠ some g→((w6.setCell ⟨gl,0,none⟩ v6).putObj (zc+5) (.loop (rec .ready none))).heap[g]? = X1.heap[g]?:=by
 obtain ⟨r0,r1,rd,-,m,c,ds,nd,dd,rb,gr',bl⟩:=h
 have hz:=(Array.getElem?_eq_some_iff.1 rb).1
 have hsame:∀ g,g < X1.heap.size→v.ownBlock ≠ some g→w6.heap[g]? = X1.heap[g]?:=fun g hg hne=>(hg6.block g (by have:=hbZ.size;omega) (fun e=>hne e.symm)).trans (hbZ.block g hg)
 have hno:∀ g,(g≤gl ∨ g ∈ bs ∨ (zc≤g∧g < zc+6))→v.ownBlock ≠ some g:=by
  intro g hg e
  have h1:=(Dc.own_lt l2 e).2
  have h2:=l3 g e
  rcases hg with hg | hg | hg
  ·omega
  ·exact h2.1 hg
  ·omega
 have hx:∀ g,g < X1.heap.size→g ≠ gl→v.ownBlock ≠ some g→(w6.setCell ⟨gl,0,none⟩ v6).heap[g]? = X1.heap[g]?:=fun g h1 h2 h3=>(Below.heap_setCell _ _ _ _ h2).trans (hsame g h1 h3)
 have hf:∀ g,g < X1.heap.size→g ≠ gl→g ≠ zc+5→v.ownBlock ≠ some g→((w6.setCell ⟨gl,0,none⟩ v6).putObj (zc+5) (.loop (rec .ready none))).heap[g]? = X1.heap[g]?:=fun g h1 h2 h3 h4=>(World.putObj_heap_other h3).trans (hx g h1 h2 h4)
 have hrb:=(hx (zc+5) hz (by omega) (hno _ (.inr (.inr (by omega))))).trans rb
 have ho7:Bk (w6.setCell ⟨gl,0,none⟩ v6) gl 67 #[v6]:=by
  have q:Bk w6 gl 67 #[v]:=(hsame gl (by omega) (hno _ (.inl (Nat.le_refl _)))).trans l1
  have:=q.set 0 v6
  simpa using this
 have e1:Below w.heap.size w Z:=bl.trans (hbZ.mono bl.size)
 have e2:Below w.heap.size w w6:=e1.grown hg6 (by have:=hbZ.size;have:=bl.size;omega) (fun g e=>by have:=(Dc.own_lt l2 e).2;omega)
 have e3:Below w.heap.size w ((w6.setCell ⟨gl,0,none⟩ v6).putObj (zc+5) (.loop (rec .ready none))):=Below.putD (e2.setCell (by show w.heap.size≤gl;omega) _) _ _ (by omega)
 refine ⟨hrb,⟨?_,?_,?_,⟨pre ++ [x],v6,ho7.put _ (by omega),?_,?_,by simp;omega,l5⟩,h0.kept e3,c.kept (fun g hg=>hf g (by omega) (by omega) (by omega) (hno _ (.inr (.inr (by omega))))),fun r hr=>⟨(ds r hr).1,?_⟩,nd,?_,World.putObj_heap_same (Array.getElem?_eq_some_iff.1 hrb).1,gr',e3⟩,hf⟩
 ·exact (hf _ (by omega) (by omega) (by omega) (hno _ (.inl (by omega)))).trans r0
 ·exact (hf _ (by omega) (by omega) (by omega) (hno _ (.inl (by omega)))).trans r1
 ·exact (hf _ (by omega) (by omega) (by omega) (hno _ (.inl (by omega)))).trans rd
 ·have q:w6.ownsRow (gl+1) 76 7 v6 (pre ++ [x]).length ((pre ++ [x]).flatMap Dc.wenc):=by
   rw [List.length_append,List.flatMap_append]
   simpa using ho6
  refine Dc.own_at2 q (fun y hy=>?_)
  have hy1:=(Dc.own_lt ho6 hy).2
  have hy2:y ≠ zc+5:=by
   rcases hn6 y hy with h | h
   ·have:=(l3 y h).2;omega
   ·have:=hbZ.size;omega
  exact (World.putObj_heap_other hy2).trans (Below.heap_setCell _ _ _ _ (by show y ≠ gl;omega))
 ·intro y hy
  rcases hn6 y hy with h | h
  ·exact l3 y h
  ·have hs:=hbZ.size
   exact ⟨fun hr=>by have:=(ds y hr).1;omega,by omega⟩
 ·exact (hf r (by have:=(ds r hr).1;omega) (by have:=(ds r hr).1;omega) (by have:=(ds r hr).1;omega) (hno _ (.inr (.inl hr)))).trans (ds r hr).2
 ·exact (hf _ (by omega) (by omega) (by omega) (hno _ (.inr (.inr (by omega))))).trans dd
theorem Dc.Inn.finish {w:World} {gm gb:Nat} {b:List UInt8} {hs:List (Nat × Nat)} {heads gr gl k:Nat} {bs:List Nat} {zc:Nat} {rec:LoopState→Option Code→Loop} {last:Nat} {X:World} (h:Dc.Inn w gm gb b hs heads gr gl k bs zc rec .ready 0 last X) (h0:OwnM w gm gb b hs) (hk:k < 32) (o:Obj) :
  ∃ pre2,Dc.Out w gm gb b hs heads gr gl (k+1) pre2 ((zc+4) :: bs) (X.putObj (zc+5) o):=by
 obtain ⟨r0,r1,rd,⟨pre,v,l1,l2,l3,l4,l5⟩,m,c,ds,nd,dd,rb,gr',bl⟩:=h
 have hb:=Below.putD bl (zc+5) o (by omega)
 refine ⟨pre,⟨r0.put _ (by omega),r1.put _ (by omega),rd.put _ (by omega),⟨v,l1.put _ (by omega),Dc.own_at2 l2 (fun x hx=>World.putObj_heap_other (by have:=(l3 x hx).2;omega)),fun x hx hm=>?_⟩,h0.kept hb,l4,l5.out,?_,List.nodup_cons.2 ⟨fun hr=>by have:=(ds _ hr).1;omega,nd⟩,⟨gr'.1,gr'.2.1⟩,hb⟩⟩
 ·rcases List.mem_cons.1 hm with e | e
  ·have:=(l3 x hx).2;omega
  ·exact (l3 x hx).1 e
 ·intro r hr
  rcases List.mem_cons.1 hr with rfl | hr
  ·exact ⟨by omega,(World.putObj_heap_other (by omega)).trans dd⟩
  ·have:=(ds r hr).1
   exact ⟨this.1,(World.putObj_heap_other (by omega)).trans (ds r hr).2⟩
structure Dc.Fin (w:World) (gl:Nat) (bs:List Nat) (v:Value) (l':List Dc.Wd) (W:World):Prop where
 r0:Bk W w.heap.size 67 #[.slice none 0 0]
 r1:Bk W (w.heap.size+1) 30 #[.int .i64 0]
 lv:Bk W gl 67 #[v]
 rd:RdD W v l'
 ds:∀ r ∈ bs,w.heap.size+2≤r∧W.heap[r]? = some (.deferred (some []))
 nd:bs.Nodup
 gr:w.heap.size+2≤gl
 below:Below w.heap.size w W
theorem RdD.drew {W:World} {v:Value} {l:List Dc.Wd} (h:RdD W v l):RdD W.drew v l:=h
theorem Dc.Fin.drew {w:World} {gl:Nat} {bs:List Nat} {v:Value} {l':List Dc.Wd} {W:World} (h:Dc.Fin w gl bs v l' W):Dc.Fin w gl bs v l' W.drew:=⟨h.r0,h.r1,h.lv,h.rd,h.ds,h.nd,h.gr,h.below.drew⟩
theorem Dc.Out.fin {w:World} {gm gb:Nat} {b:List UInt8} {hs:List (Nat × Nat)} {heads gr gl k:Nat} {pre:List Dc.Wd} {bs:List Nat} {W W':World} (h:Dc.Out w gm gb b hs heads gr gl k pre bs W) {v:Value} {l':List Dc.Wd} (l1:Bk W gl 67 #[v]) (l2:W.ownsRow (gl+1) 76 7 v pre.length (pre.flatMap Dc.wenc)) (l3:∀ x,v.ownBlock = some x→x ∉ bs)
  (hrd:RdD W' v l') (hk:∀ k,k < W.heap.size→v.ownBlock ≠ some k→W'.heap[k]? = W.heap[k]?) (ho:W'.os = W.os) (ht:W'.tape = W.tape) (hu:W'.output = W.output) (hz:W.heap.size≤W'.heap.size):Dc.Fin w gl bs v l' W':=by
 have hno:∀ g,(g≤gl ∨ g ∈ bs)→v.ownBlock ≠ some g:=by
  intro g hg e
  rcases hg with hg | hg
  ·have:=(Dc.own_lt l2 e).2;omega
  ·exact l3 g e hg
 have hgl:=l1.lt
 have hgr:=h.gr
 have hb:=h.below.size
 refine ⟨(hk _ (by omega) (hno _ (.inl (by omega)))).trans h.r0,(hk _ (by omega) (hno _ (.inl (by omega)))).trans h.r1,(hk _ hgl (hno _ (.inl (Nat.le_refl _)))).trans l1,hrd,fun r hr=>⟨by have:=(h.ds r hr).1;omega,(hk r (Array.getElem?_eq_some_iff.1 (h.ds r hr).2).1 (hno _ (.inr hr))).trans (h.ds r hr).2⟩,h.nd,by omega,?_⟩
 exact h.below.trans ⟨ho,ht,hu,hz,fun k hk'=>hk k (by omega) (hno _ (.inl (by omega)))⟩
theorem RdD.at {W:World} {A:Option Addr} {n c:Nat} {l:List Dc.Wd} (h:RdD W (.slice A n c) l) {i:Nat} (hi:i < l.length) (default:Dc.Wd):n = l.length∧∃ g off,A = some ⟨g,off,none⟩∧∀ j,j < l.length→W.cell? ⟨g,off+j * 7+1,none⟩ = some (.int .u32 ((l.getD j default).at_:Int)):=by
 obtain ⟨_,A',c',he,h1,h2,h3⟩:=h
 injection he with e1 e2 e3
 subst e1 e2 e3
 obtain ⟨g,off,rfl,hg,hc⟩:=h3 (by omega)
 refine ⟨rfl,g,off,rfl,fun j hj=>?_⟩
 have:=flat_at Dc.wenc 7 Dc.wenc_len l j 1 default hj (by decide)
 rw [Nat.add_assoc]
 exact hc _ _ (this.trans rfl)
theorem Dc.Fin.put {w:World} {gl:Nat} {bs:List Nat} {v:Value} {l':List Dc.Wd} {W:World} (h:Dc.Fin w gl bs v l' W) (v':Value) (i':Int) :
  Below w.heap.size w ((W.setCell ⟨w.heap.size,0,none⟩ v').setCell ⟨w.heap.size+1,0,none⟩ (.int .i64 i'))∧Bk ((W.setCell ⟨w.heap.size,0,none⟩ v').setCell ⟨w.heap.size+1,0,none⟩ (.int .i64 i')) w.heap.size 67 #[v'] ∧
   Bk ((W.setCell ⟨w.heap.size,0,none⟩ v').setCell ⟨w.heap.size+1,0,none⟩ (.int .i64 i')) (w.heap.size+1) 30 #[.int .i64 i'] ∧
   (∀ g,w.heap.size+2≤g→((W.setCell ⟨w.heap.size,0,none⟩ v').setCell ⟨w.heap.size+1,0,none⟩ (.int .i64 i')).heap[g]? = W.heap[g]?)∧((W.setCell ⟨w.heap.size,0,none⟩ v').setCell ⟨w.heap.size+1,0,none⟩ (.int .i64 i')).heap.size = W.heap.size:=by
 have a0:=h.r0.set 0 v'
 have a1:=(But.setCell W w.heap.size 0 v').bk h.r1 (by omega)
 have b0:=(But.setCell _ (w.heap.size+1) 0 (.int .i64 i')).bk a0 (by omega)
 have b1:=a1.set 0 (.int .i64 i')
 exact ⟨(h.below.setCell (Nat.le_refl _) _).setCell (by simp) _,b0,b1,fun g hg=>(Below.heap_setCell _ _ _ _ (by show g ≠ w.heap.size+1;omega)).trans (Below.heap_setCell _ _ _ _ (by show g ≠ w.heap.size;omega)),by simp [World.setCell]⟩
def Dc.w0:Dc.Wd:=⟨0,0,⟨[],0,0,0,0⟩⟩
theorem Dc.perm_nodup {l l':List Dc.Wd} (h:l'.Perm l):(l'.map Dc.Wd.at_).Nodup ↔ (l.map Dc.Wd.at_).Nodup:=(h.map _).nodup_iff
theorem Dc.not_good {b:List UInt8} {heads:Nat} {pre l':List Dc.Wd} (ha:Dc.all b heads = some pre) (hp:l'.Perm pre) {m:Nat} (hm:m+1 < l'.length) (he:(l'.getD m Dc.w0).at_ = (l'.getD (m+1) Dc.w0).at_):∀ l,¬ Dc.Good b heads l:=by
 intro l hl
 have e:pre = l:=by have:=hl.all;rw [ha] at this;exact Option.some.inj this
 subst e
 have hn:=(Dc.perm_nodup hp).2 hl.once
 rw [List.nodup_iff_pairwise_ne,List.pairwise_iff_getElem] at hn
 have:=hn m (m+1) (by rw [List.length_map];omega) (by rw [List.length_map];omega) (Nat.lt_succ_self _)
 apply this
 rw [List.getElem_map,List.getElem_map]
 simpa [List.getD,List.getElem?_eq_getElem hm,List.getElem?_eq_getElem (show m < l'.length by omega)] using he
theorem Dc.is_good {b:List UInt8} {heads:Nat} {pre l':List Dc.Wd} (ha:Dc.all b heads = some pre) (hl:pre.length≤4096) (hp:l'.Perm pre) (h:∀ j,j+1 < l'.length→(l'.getD j Dc.w0).at_ < (l'.getD (j+1) Dc.w0).at_):Dc.Good b heads pre∧l'.Pairwise (fun x y=>x.at_ < y.at_):=by
 have key:∀ d i,i+d+1 < l'.length→(l'.getD i Dc.w0).at_ < (l'.getD (i+d+1) Dc.w0).at_:=by
  intro d
  induction d with
  | zero=>exact fun i hi=>h i hi
  | succ d ih=>exact fun i hi=>Nat.lt_trans (ih i (by omega)) (h (i+d+1) (by omega))
 have hpw:l'.Pairwise (fun x y=>x.at_ < y.at_):=by
  rw [List.pairwise_iff_getElem]
  intro i j hi hj hij
  have:=key (j - i - 1) i (by omega)
  rw [show i+(j - i - 1)+1 = j by omega] at this
  simpa [List.getD,List.getElem?_eq_getElem hi,List.getElem?_eq_getElem hj] using this
 refine ⟨⟨ha,hl,(Dc.perm_nodup hp).1 ?_⟩,hpw⟩
 rw [List.nodup_iff_pairwise_ne,List.pairwise_map]
 exact hpw.imp (fun h=>by omega)
theorem Dc.m1 {m:Nat} (h:m≤1000000):IntKind.i64.wrap (m:Int) = (m:Int)∧IntKind.i64.wrap ((m:Int)+1) = (m:Int)+1∧IntKind.i64.wrap ((m:Int)+1 - 1) = (m:Int)∧IntKind.i64.wrap ((m:Int)+1+1) = (m:Int)+1+1:=by
 simp only [IntKind.wrap_i64]
 omega
theorem Dc.one7 (x:Dc.Wd):∀ u ∈ Dc.wenc x,u.oneCell' = true:=fun u hu=>Dc.one x u hu
theorem Dc.leave {w W:World} {v:Value} {i:Int} {bs:List Nat} (hw:Below w.heap.size w W) (h0:Bk W w.heap.size 67 #[v]) (h1:Bk W (w.heap.size+1) 30 #[.int .i64 i])
  (hd:∀ r ∈ bs,w.heap.size+2≤r∧W.heap[r]? = some (.deferred (some []))) (hn:bs.Nodup) {t:Array Value} (h4:t[4]? = some (.pointer (some ⟨w.heap.size,0,none⟩))) (h5:t[5]? = some (.pointer (some ⟨w.heap.size+1,0,none⟩)))
  {R:Ending→World→Prop} (hR:∀ W',Below w.heap.size w W'→W'.heap.size = W.heap.size→(∀ g,g ∉ bs→W'.heap[g]? = W.heap[g]?)→R (.returned (.tuple #[v,.int .i64 i])) W') :
  LeavesInM Fence.wide 20 Tryz.prog Tryz.f31 t R (Dc.marks bs) .returning W:=by
 refine leaves_marks bs W (fun r hr=>(hd r hr).2) hn ?_
 intro W' g1 g2 g3 g4 g5
 have n0:w.heap.size ∉ bs:=fun h=>by have:=(hd _ h).1;omega
 have n1:w.heap.size+1 ∉ bs:=fun h=>by have:=(hd _ h).1;omega
 have b0:Bk W' w.heap.size 67 #[v]:=(g1 _ n0).trans h0
 have b1:Bk W' (w.heap.size+1) 30 #[.int .i64 i]:=(g1 _ n1).trans h1
 refine ⟨_,Dc.rd_results (b0.cell 0) (b1.cell 0) h4 h5,hR W' ?_ g2 g1⟩
 exact hw.trans ⟨g3,g4,g5,by rw [g2];exact Nat.le_refl _,fun k hk=>g1 k (fun h=>by have:=(hd _ h).1;omega)⟩
theorem Dc.k4 {k:Nat} (h:k < 32):IntKind.i64.wrap (4 * (k:Int)) = 4 * (k:Int):=by rw [IntKind.wrap_i64];omega
theorem Dc.k1 {k:Nat} (h:k < 32):IntKind.i64.wrap ((k:Int)+1) = (k:Int)+1:=by rw [IntKind.wrap_i64];omega
theorem Dc.k4u {k:Nat} (h:k < 32):IntKind.u32.wrap (4 * (k:Int)) = 4 * (k:Int):=by rw [IntKind.wrap_u32];omega
theorem Dc.k4h (heads k:Nat):IntKind.u32.wrap ((heads:Int)+4 * (k:Int)) = (((heads+4 * k) % 4294967296:Nat):Int):=by rw [IntKind.wrap_u32];omega
theorem Dc.put2 {w W:World} {v v':Value} {i i':Int} (hb:Below w.heap.size w W) (h0:Bk W w.heap.size 67 #[v]) (h1:Bk W (w.heap.size+1) 30 #[.int .i64 i]) :
  Below w.heap.size w ((W.setCell ⟨w.heap.size,0,none⟩ v').setCell ⟨w.heap.size+1,0,none⟩ (.int .i64 i')) ∧
   (((W.setCell ⟨w.heap.size,0,none⟩ v').setCell ⟨w.heap.size+1,0,none⟩ (.int .i64 i')).cell? ⟨w.heap.size,0,none⟩ = some v') ∧
   (((W.setCell ⟨w.heap.size,0,none⟩ v').setCell ⟨w.heap.size+1,0,none⟩ (.int .i64 i')).cell? ⟨w.heap.size+1,0,none⟩ = some (.int .i64 i')):=by
 have a0:=h0.set 0 v'
 have a1:=(But.setCell W w.heap.size 0 v').bk h1 (by omega)
 have b0:=(But.setCell _ (w.heap.size+1) 0 (.int .i64 i')).bk a0 (by omega)
 have b1:=a1.set 0 (.int .i64 i')
 exact ⟨(hb.setCell (Nat.le_refl _) _).setCell (by simp) _,b0.cell 0,b1.cell 0⟩
set_option maxRecDepth 100000 in
set_option maxHeartbeats 4000000 in
theorem dread_any (w:World) (gm gb:Nat) (b:List UInt8) (hs:List (Nat × Nat)) (heads:Nat) (hh:heads < 4294967296) (h:OwnM w gm gb b hs) :
  Calls Tryz.prog 31 #[.pointer (some ⟨gm,0,none⟩),.int .u32 (heads:Int)] w (Dc.Post w b heads):=by
 refine (callsIn_wide (n:=20)).1 ?_
 refine callsIn_of_wp_marks Tryz.func31 rfl trivial ?_ rfl
 simp only [Tryz.ntmps31,List.size_toArray,List.length_cons,List.length_nil,Nat.reduceAdd,Nat.reduceSub,Array.replicate_succ,Array.replicate_zero,List.push_toArray,List.append_toArray,List.nil_append,List.cons_append]
 have mixed:Tryz.prog.follows .mixedOrders = true:=by kernel_rfl
 have hal:Below w.heap.size w ((w.alloc (.cells #[.slice none 0 0] 67)).alloc (.cells #[.int .i64 0] 30)):=((Below.refl _ _).alloc (Nat.le_refl _) _).alloc (by simp) _
 have r0:Bk ((w.alloc (.cells #[.slice none 0 0] 67)).alloc (.cells #[.int .i64 0] 30)) w.heap.size 67 #[.slice none 0 0]:=(Bk.fresh w 67 #[.slice none 0 0]).kept ((Below.refl _ _).alloc (Nat.le_refl _) _)
 have r1:Bk ((w.alloc (.cells #[.slice none 0 0] 67)).alloc (.cells #[.int .i64 0] 30)) (w.heap.size+1) 30 #[.int .i64 0]:=by
  have:=Bk.fresh (w.alloc (.cells #[.slice none 0 0] 67)) 30 #[.int .i64 0]
  rwa [World.size_alloc] at this
 have z1:((w.alloc (.cells #[.slice none 0 0] 67)).alloc (.cells #[.int .i64 0] 30)).heap.size = w.heap.size+2:=by simp
 have hM:=h.kept hal
 obtain ⟨w1,hw1⟩:∃ w1,(w.alloc (.cells #[.slice none 0 0] 67)).alloc (.cells #[.int .i64 0] 30) = w1:=⟨_,rfl⟩
 rw [hw1] at hal hM r0 r1 z1
 have CS:=Lib.hid (size_own w1 gm gb b hs hM)
 obtain ⟨r4,hr4,hr4'⟩:=Dc.rem4 heads
 have HM:=Lib.hid hM
 have HAL:=Lib.hid hal
 have HH:=Lib.hid hh
 have R0:=Lib.hid r0
 have R1:=Lib.hid r1
 have k0:=r0.cell 0
 have k1:=r1.cell 0
 have f0:=r0.free 0
 have f1:=r1.free 0
 have mb:=h.hi
 have H0:=Lib.hid h
 have hq:=mq34
 by_cases hf:Dc.fits b heads
 ·obtain ⟨c1,c2,c3⟩:=hf
  have HF:=Lib.hid (show Dc.fits b heads from ⟨c1,c2,c3⟩)
  have c1':decide ((b.length:Int) < 128) = false:=by rw [decide_eq_false_iff_not];omega
  have hr0:r4 = 0:=by omega
  subst hr0
  have CB:=Lib.hid (fun (W:World) (hW:Below w1.heap.size w1 W)=>bytes_own W gm gb b hs heads 128 hh (hM.kept hW))
  have HBL:=Lib.hid (show Mm.bytesL b heads 128 = (b.drop heads).take 128∧(Mm.bytesL b heads 128).length = 128 from by
   have e1:Mm.bytesL b heads 128 = Mm.get b heads 128:=by unfold Mm.bytesL;rw [if_pos ⟨by omega,by omega⟩];rfl
   exact ⟨e1,by rw [e1];exact Mm.get_length b heads 128 c3⟩)
  clear h hM hal hh r0 r1 c1 c2 c3 hr4'
  gi_wp2_with (refine ⟨trivial,?_⟩;first | (gi_at_call 70;refine (callsIn_wide.2 CS.out).mono ?_;rintro e w' ⟨rfl,rfl⟩) | (gi_at_call 37;refine (callsIn_wide.2 (CB.out _ (Below.refl _ _))).mono ?_;rintro e w2 ⟨v2,rfl,hv2,hb2⟩;obtain ⟨g2,cp2,rfl,-⟩:=Dc.own_at hv2 (fun e=>by have:=HBL.out.2;rw [e] at this;simp at this)))
  have hz2:w.heap.size+2≤w2.heap.size:=by have:=HAL.out;have:=hb2.size;omega
  have hbb:Below w1.heap.size w1 ((w2.alloc (.cells #[.pointer (some ⟨gm,0,none⟩)] 153)).alloc (.cells #[.slice none 0 0] 67)):=(hb2.alloc hb2.size _).alloc (by have:=hb2.size;simp;omega) _
  have hO:Dc.Out w gm gb b hs heads w2.heap.size (w2.heap.size+1) 0 [] [] ((w2.alloc (.cells #[.pointer (some ⟨gm,0,none⟩)] 153)).alloc (.cells #[.slice none 0 0] 67)):=by
   refine ⟨R0.out.kept hbb,R1.out.kept hbb,?_,?_,HM.out.kept hbb,Nat.zero_le _,Dc.At.start b heads,(fun r hr=>by cases hr),List.nodup_nil,⟨hz2,Nat.lt_succ_self _⟩,HAL.out.trans (hbb.mono HAL.out.size)⟩
   ·exact (Bk.fresh w2 _ _).kept ((Below.refl _ _).alloc (Nat.le_refl _) _)
   ·have q:=Bk.fresh (w2.alloc (.cells #[.pointer (some ⟨gm,0,none⟩)] 153)) 67 #[.slice none 0 0]
    rw [World.size_alloc] at q
    exact ⟨⟨_,q,World.ownsRow_nil _ _ _ _,fun x hx=>by simp [Value.ownBlock] at hx⟩⟩
  generalize (w2.alloc (.cells #[.pointer (some ⟨gm,0,none⟩)] 153)).alloc (.cells #[.slice none 0 0] 67) = W0 at hO ⊢
  generalize hgl:w2.heap.size+1 = gl at hO ⊢
  generalize w2.heap.size = gr at hO ⊢
  generalize Value.slice (some ⟨g2,0,none⟩) (Mm.bytesL b heads 128).length cp2 = v24
  clear hz2 hbb hgl hv2 hb2 HBL CB CS k0 k1 f0 f1 R0 R1 HAL HM hr4 z1 hw1
  refine wpIn_loop (fun a W=>∃ (k:Nat) (pre:List Dc.Wd) (bs:List Nat) (u8 u9 u10 u30 u31 u32 u33 u34 u35 u36 u37 u38 u39 u40 u41 u42 u43 u44 u45 u46 u47 u48 u62:Value),(k≤32∧Dc.Out w gm gb b hs heads gr gl k pre bs W)∧a = { tmps:=#[.pointer (some ⟨gm,0,none⟩),.int .u32 (heads:Int),undef,undef,.pointer (some ⟨w.heap.size,0,none⟩),.pointer (some ⟨w.heap.size+1,0,none⟩),.pointer (some ⟨gr,0,none⟩),.pointer (some ⟨gl,0,none⟩),u8,u9,u10,undef,undef,.pointer (some ⟨gm,0,none⟩),.int .i64 (b.length:Int),.bool false,.bool false,.int .u32 (heads:Int),.int .u32 0,.bool false,.bool false,.bool false,.pointer (some ⟨gm,0,none⟩),.int .u32 (heads:Int),v24,.bool false,.bool false,.pointer (some ⟨gm,0,none⟩),.agg #[.pointer (some ⟨gm,0,none⟩)],.int .i64 (k:Int),u30,u31,u32,u33,u34,u35,u36,u37,u38,u39,u40,u41,u42,u43,u44,u45,u46,u47,u48,undef,undef,undef,undef,undef,undef,undef,undef,undef,undef,undef,undef,undef,u62,undef,undef,undef,undef,undef,undef,undef,undef,undef,undef,undef,undef,undef,undef,undef,undef,undef,undef,undef,undef,undef],defers:=Dc.marks bs }) (fun a _=>32 - (intOf (a.tmps.getD 29 undef)).toNat) ?start ?round
  case start=>exact ⟨0,[],[],undef,undef,undef,undef,undef,undef,undef,undef,undef,undef,undef,undef,undef,undef,undef,undef,undef,undef,undef,undef,undef,undef,undef,⟨by omega,hO⟩,rfl⟩
  case round=>
   clear hO
   rintro _ W ⟨k,pre,bs,u8,u9,u10,u30,u31,u32,u33,u34,u35,u36,u37,u38,u39,u40,u41,u42,u43,u44,u45,u46,u47,u48,u62,⟨hk,hO⟩,rfl⟩
   dsimp only
   by_cases hlt:k < 32
   ·have hlt':(k:Int) < 32:=by omega
    have rd:=hO.rd.cell 0
    have e1:IntKind.i64.wrap (4 * (k:Int)) = 4 * (k:Int):=Dc.k4 hlt
    have e2:IntKind.u32.wrap (4 * (k:Int)) = 4 * (k:Int):=Dc.k4u hlt
    have e3:IntKind.u32.wrap ((heads:Int)+4 * (k:Int)) = (((heads+4 * k) % 4294967296:Nat):Int):=Dc.k4h heads k
    have CW:=Lib.hid (dword_any W gm gb b hs ((heads+4 * k) % 4294967296) (by omega) hO.mem)
    have CH:=Lib.hid (fun W=>show Calls Tryz.prog 72 #[Dc.rv gm,.int .u32 (((Dc.wd b ((heads+4 * k) % 4294967296)).getD 0:Nat):Int),.int .i64 ((k:Int) / 16),.int .i64 ((k:Int) % 16)] W _ from by
     rw [show (k:Int) / 16 = ((k / 16:Nat):Int) by omega,show (k:Int) % 16 = ((k % 16:Nat):Int) by omega]
     exact dchain_any W gm ((Dc.wd b ((heads+4 * k) % 4294967296)).getD 0) (k / 16) (k % 16))
    have HO:=Lib.hid hO
    clear hO
    gi_wp2_with (refine ⟨trivial,?_⟩;first | (gi_at_call 71;refine (callsIn_wide.2 CW.out).mono ?_;rintro e w3 ⟨rfl,hb3⟩;have rd3:=(HO.out.rd.kept hb3).cell 0) | (gi_at_call 72;refine (callsIn_wide.2 (CH.out _)).mono ?_;rintro e w4 ⟨rfl,hcap,hb4,hz4⟩))
    have HB5:=Lib.hid (hb3.trans (hb4.mono hb3.size))
    have hO5:=HO.out.kept HB5.out
    have hzw:W.heap.size≤w3.heap.size:=hb3.size
    have hglW:gl < W.heap.size:=(HO.out.ls.ls.choose_spec.1).lt
    have hdsW:∀ r ∈ bs,r < W.heap.size:=fun r hr=>(Array.getElem?_eq_some_iff.1 (HO.out.ds r hr).2).1
    have hInto:=hO5.at_.into hlt
    generalize hzc:w3.heap.size = zc at hcap hz4 hzw ⊢
    have HOWN:=Lib.hid (HO.out.ls.ls)
    clear CW CH e1 e2 e3 rd rd3 hb4 hb3 hzc
    refine range_at (gf:=130) (lb:=#[.pointer (some ⟨zc+1,0,none⟩),.pointer (some ⟨zc,0,none⟩),.pointer (some ⟨zc+3,0,none⟩),.pointer (some ⟨zc+2,0,none⟩)]) rfl (enters_of Tryz.func130 (by kernel_rfl) rfl)
     (fun fn X=>∃ rec last,Dc.Inn w gm gb b hs heads gr gl k bs zc rec .ready 0 last X) (fun fn c X=>∃ rec,Dc.Inx w b heads gl bs zc rec X∧c = .ret) ?call ?done ?stop
    case done=>
     rintro fn X ⟨rec,last,h⟩
     rw [hz4]
     have ek:IntKind.i64.wrap ((k:Int)+1) = (k:Int)+1:=Dc.k1 hlt
     generalize hex:X.putObj (zc+4+1) _ = X'
     obtain ⟨pre2,hO2⟩:∃ pre2,Dc.Out w gm gb b hs heads gr gl (k+1) pre2 ((zc+4) :: bs) X':=by rw [← hex];exact h.finish H0.out hlt _
     clear hex h hcap hO5 hInto hdsW
     gi_wp2
     refine ⟨⟨k+1,pre2,(zc+4) :: bs,_,_,_,_,_,_,_,_,_,_,_,_,_,_,_,_,_,_,_,_,_,_,_,⟨by omega,hO2⟩,rfl⟩,?_⟩
     simp [intOf]
     omega
    case stop=>
     rintro fn c X ⟨rec,h,rfl⟩
     rw [hz4]
     generalize hex:X.putObj (zc+4+1) _ = X'
     have hg:∀ g,g ≠ zc+5→X'.heap[g]? = X.heap[g]?:=fun g hg=>by rw [← hex];exact World.putObj_heap_other hg
     have hbX:Below w.heap.size w X':=by rw [← hex];exact Below.putD h.below _ _ (by have:=HO.out.gr;omega)
     have HGR:=HO.out.gr
     clear hcap hO5 hInto hdsW
     gi_wp2
     refine Dc.leave (bs:=(zc+4) :: bs) (v:=.slice none 0 0) (i:=45) hbX ((hg _ (by omega)).trans h.r0) ((hg _ (by omega)).trans h.r1) ?_ (List.nodup_cons.2 ⟨fun hr=>by have:=(h.ds _ hr).1;omega,h.nd⟩) rfl rfl ?_
     ·intro r hr
      rcases List.mem_cons.1 hr with rfl | hr
      ·exact ⟨by omega,(hg _ (by omega)).trans h.dd⟩
      ·have:=(h.ds r hr).1
       exact ⟨by omega,(hg _ (by omega)).trans (h.ds r hr).2⟩
     ·intro W' hb' _ _
      exact ⟨hb',.inr (.inl ⟨HF.out,h.bad,rfl⟩)⟩
    case call=>
     intro fn
     rw [hz4]
     generalize hrec:(rec_ fn _ _ _ _ (zc+4)) = rec
     have hW1:Dc.Inn w gm gb b hs heads gr gl k bs zc rec .ready (Dc.first b heads k) 4294967295 ((w4.alloc (.deferred (some []))).alloc (.loop (rec .ready none))):=by
      have hbw:Below w4.heap.size w4 ((w4.alloc (.deferred (some []))).alloc (.loop (rec .ready none))):=((Below.refl _ _).alloc (Nat.le_refl _) _).alloc (by simp) _
      have hd3:((w4.alloc (.deferred (some []))).alloc (.loop (rec .ready none))).heap[zc+4]? = some (.deferred (some [])):=by
       have:=(Below.heap_alloc (w4.alloc (.deferred (some []))) (.loop (rec .ready none)) w4.heap.size (by simp)).trans (World.alloc_heap_new w4 _)
       rwa [hz4] at this
      have hr3:((w4.alloc (.deferred (some []))).alloc (.loop (rec .ready none))).heap[zc+5]? = some (.loop (rec .ready none)):=by
       have:=World.alloc_heap_new (w4.alloc (.deferred (some []))) (.loop (rec .ready none))
       rwa [World.size_alloc,hz4] at this
      have hO6:=hO5.kept hbw
      obtain ⟨v0,l1,l2,l3⟩:=HOWN.out
      have hb6:=HB5.out.trans (hbw.mono HB5.out.size)
      refine ⟨hO6.r0,hO6.r1,hO6.rd,⟨pre,v0,l1.kept hb6,own_kept l2 hb6,fun x hx=>⟨l3 x hx,.inl (by have:=(Dc.own_lt l2 hx).1;omega)⟩,HO.out.most,hInto⟩,hO6.mem,hcap.kept (fun g hg=>hbw.block g (by omega)),fun r hr=>⟨⟨(HO.out.ds r hr).1,by have:=hdsW r hr;omega⟩,(hO6.ds r hr).2⟩,HO.out.nd,hd3,hr3,⟨HO.out.gr.1,HO.out.gr.2,by omega⟩,hO6.below⟩
     generalize (w4.alloc (.deferred (some []))).alloc (.loop (rec .ready none)) = W1 at hW1 ⊢
     refine (chain1_in 19 (zc+5) (by omega) (Dc.first b heads k) (k / 16) (k % 16) (zc+1) zc (zc+3) (zc+2) (Dc.first_lt b heads k) (fun a last X=>Dc.Inn w gm gb b hs heads gr gl k bs zc rec .ready a last X) (fun X=>Dc.Inx w b heads gl bs zc rec X) (fun a last X hX=>hX.mem) (fun a last X hX=>hX.kept (Below.refl _ _).drew) (fun a last X hX=>hX.cap) ?_ W1 hW1).mono ?_
     ·intro a last X0 X ha ha32 hJ hbX
      have hX:=hJ.kept hbX
      have hr:=hX.rb
      rw [← hrec] at hr
      refine ⟨fun hok=>?_,fun hok=>?_⟩
      ·obtain ⟨Hd,hHd⟩:∃ q,Dc.here b a = q:=⟨_,rfl⟩
       obtain ⟨kq,hkq⟩:∃ q,k / 16 = q:=⟨_,rfl⟩
       have HSTEP:=Lib.hid (fun (pre:List Dc.Wd) (h:Dc.In b heads pre k a last)=>h.step ha hok)
       rw [hHd,hkq] at HSTEP ⊢
       have HFULL:=Lib.hid (fun (pre:List Dc.Wd) (h:Dc.In b heads pre k a last)=>h.full ha hok)
       obtain ⟨nm,fl,lk,xt,sz⟩:=Hd
       have HN:=Lib.hid ha
       have n1:((a:Int) == 0) = false:=by rw [beq_eq_false_iff_ne];omega
       refine yieldAny (m:=18) (yield_at2 hr rfl ?b1 ?V1 ?hm1 ?bss ?cod)
       case bss=>
        intro K hK
        dsimp only [Dc.Wd.v]
        gi_wp2
        exact hK
       case hm1=>rw [hrec];exact (hX.kept ((Below.refl _ _).alloc (Nat.le_refl _) _)).rb
       case cod=>
        rw [hrec]
        have hzx:zc+5 < X.heap.size:=(Array.getElem?_eq_some_iff.1 hX.rb).1
        have hB:=(hX.kept ((Below.refl _ _).alloc (Nat.le_refl _) (.cells #[.int .i64 (kq:Int),.int .u32 (a:Int),.string ⟨nm.toArray⟩,.int .i64 (fl:Int),.int .u32 (lk:Int),.int .u32 (xt:Int),.int .u32 (sz:Int)] 76))).busy (st':=.busy) H0.out
        have hbx:=(Bk.fresh X 76 #[.int .i64 (kq:Int),.int .u32 (a:Int),.string ⟨nm.toArray⟩,.int .i64 (fl:Int),.int .u32 (lk:Int),.int .u32 (xt:Int),.int .u32 (sz:Int)]).put (l:=zc+5) (.loop (rec .busy none)) (by omega)
        have hKG:(∀ g,g < X.heap.size→g ≠ zc+5→((X.alloc (.cells #[.int .i64 (kq:Int),.int .u32 (a:Int),.string ⟨nm.toArray⟩,.int .i64 (fl:Int),.int .u32 (lk:Int),.int .u32 (xt:Int),.int .u32 (sz:Int)] 76)).putObj (zc+5) (.loop (rec .busy none))).heap[g]? = X.heap[g]?)∧X.heap.size+1≤((X.alloc (.cells #[.int .i64 (kq:Int),.int .u32 (a:Int),.string ⟨nm.toArray⟩,.int .i64 (fl:Int),.int .u32 (lk:Int),.int .u32 (xt:Int),.int .u32 (sz:Int)] 76)).putObj (zc+5) (.loop (rec .busy none))).heap.size:=
         ⟨fun g hg hne=>(World.putObj_heap_other hne).trans (Below.heap_alloc X _ g hg),by rw [World.putObj_size,World.size_alloc];exact Nat.le_refl _⟩
        generalize ((X.alloc (.cells #[.int .i64 (kq:Int),.int .u32 (a:Int),.string ⟨nm.toArray⟩,.int .i64 (fl:Int),.int .u32 (lk:Int),.int .u32 (xt:Int),.int .u32 (sz:Int)] 76)).putObj (zc+5) (.loop (rec .busy none))) = X1 at hB hbx hKG ⊢
        have x0:=hbx.cell 0
        have x1:=hbx.cell 1
        have x2:=hbx.cell 2
        have x3:=hbx.cell 3
        have x4:=hbx.cell 4
        have x5:=hbx.cell 5
        have x6:=hbx.cell 6
        have q0:=hB.r0.cell 0
        have q1:=hB.r1.cell 0
        have y0:=hB.r0.free 0
        have y1:=hB.r1.free 0
        obtain ⟨pre1,v1,l1,l2,l3,l4,l5⟩:=hB.ls
        obtain ⟨A1,c1,rfl⟩:=(Rd.of_own l2).form
        have q7:=l1.cell 0
        have y7:=l1.free 0
        have HB:=Lib.hid hB
        have HKG:=Lib.hid hKG
        have HZX:=Lib.hid hzx
        have L1:=Lib.hid l1
        have L2:=Lib.hid l2
        have L3:=Lib.hid l3
        have L4:=Lib.hid l4
        have L5:=Lib.hid l5
        have HBX:=Lib.hid hbX
        have HX0:=Lib.hid hJ
        clear hB hX hbX hJ hr hok hW1 hInto hO5 hcap hdsW hglW hz4 hzw hKG hzx l1 l2 l3 l4 l5 ha hrec
        by_cases hfu:4096≤pre1.length
        ·have hfu':decide ((4096:Int)≤(pre1.length:Int)) = true:=by rw [decide_eq_true_iff];omega
         have HBAD:=Lib.hid (show ∀ l,¬ Dc.Good b heads l from fun l hl=>by
          have:=HFULL.out pre1 L5.out hfu l hl.all
          have:=hl.most
          omega)
         clear hfu hbx
         gi_wp2
         have hst:=HB.out.stop HBAD.out
         refine ⟨hst.1,.inr ⟨rfl,hst.2⟩,fun g h1 h2=>?_⟩
         have hlx:=(Array.getElem?_eq_some_iff.1 HX0.out.rb).1
         have hgr:=HX0.out.gr
         refine (World.putObj_heap_other (by omega)).trans (((Below.heap_setCell _ _ _ _ (by show g ≠ w.heap.size+1;omega)).trans (Below.heap_setCell _ _ _ _ (by show g ≠ w.heap.size;omega))).trans (HKG.out.1 g h2 (by omega)))
        ·have hfu':decide ((4096:Int)≤(pre1.length:Int)) = false:=by rw [decide_eq_false_iff_not];omega
         have HFU:=Lib.hid hfu
         have HBQ:=Lib.hid hbx
         clear hfu hbx
         have hbZ:Below X1.heap.size X1 (X1.alloc (.cells #[.int .i64 (kq:Int),.int .u32 (a:Int),.string ⟨nm.toArray⟩,.int .i64 (fl:Int),.int .u32 (lk:Int),.int .u32 (xt:Int),.int .u32 (sz:Int)] 76)):=(Below.refl _ _).alloc (Nat.le_refl _) _
         have hgr:=HB.out.gr
         have hrbl:=(Array.getElem?_eq_some_iff.1 HB.out.rb).1
         obtain ⟨v6,w6,hap,ho6,hb6,hg6,hn6⟩:=run_appendRB (P:=Tryz.prog) (X1.alloc (.cells #[.int .i64 (kq:Int),.int .u32 (a:Int),.string ⟨nm.toArray⟩,.int .i64 (fl:Int),.int .u32 (lk:Int),.int .u32 (xt:Int),.int .u32 (sz:Int)] 76)) 67 67 dwrt (by decide) (gl+1) (.slice A1 pre1.length c1) pre1.length (pre1.flatMap Dc.wenc) (own_kept L2.out hbZ)
          (.slice (some ⟨X1.heap.size,0,none⟩) 1 1) 1 (Dc.wenc ⟨kq,a,nm,fl,lk,xt,sz⟩) (Rd.src dwrt (Rd.built (cs:=#[.int .i64 (kq:Int),.int .u32 (a:Int),.string ⟨nm.toArray⟩,.int .i64 (fl:Int),.int .u32 (lk:Int),.int .u32 (xt:Int),.int .u32 (sz:Int)]) (Bk.fresh X1 _ _) rfl) (Dc.one7 ⟨kq,a,nm,fl,lk,xt,sz⟩)) (by have:=L4.out;omega) (by have:=L4.out;unfold maxLen;omega) (by have:=hbZ.size;omega)
         obtain ⟨A6,c6,rfl⟩:=(Rd.of_own ho6).form
         have hBgl:Bk w6 gl 67 #[.slice A1 pre1.length c1]:=(hg6.block gl (by have:=hbZ.size;omega) (fun e=>by have:=(Dc.own_lt L2.out e.symm).2;omega)).trans ((hbZ.block gl (by omega)).trans L1.out)
         have q8:=hBgl.cell 0
         have y8:=hBgl.free 0
         have HR:=Lib.hid (HB.out.round H0.out L1.out L2.out L3.out (by have:=HFU.out;omega) (HSTEP.out _ L5.out) hbZ ho6 hg6 hn6)
         clear hbZ hgr hrbl ho6 hb6 hg6 hn6 hBgl
         gi_wp2
         have hst:=HR.out
         refine ⟨hst.1,.inl ⟨rfl,hst.2.1⟩,fun g h1 h2=>?_⟩
         have hlx:=(Array.getElem?_eq_some_iff.1 HX0.out.rb).1
         have hgr:=HX0.out.gr
         have hz1:=HKG.out.2
         refine (hst.2.2 g (by omega) (by omega) (by omega) (fun e=>?_)).trans (HKG.out.1 g h2 (by omega))
         obtain ⟨pre0,v0,o1,o2,o3,_,_⟩:=HX0.out.ls
         have o4:Bk X1 gl 67 #[v0]:=(HKG.out.1 gl (by have:=HBX.out.size;omega) (by omega)).trans ((HBX.out.block gl (by omega)).trans o1)
         have o5:v0 = .slice A1 pre1.length c1:=by
          have:=(o4.cell 0).symm.trans (L1.out.cell 0)
          simpa using this
         subst o5
         have:=(Dc.own_lt o2 e).1
         omega
      ·refine yieldAny (m:=18) (yield_at2 hr rfl ?a1 ?W1 ?hl1 ?ass ?bod)
       case ass=>
        intro K hK
        unfold Dc.zero
        gi_wp2
        exact hK
       case hl1=>rw [hrec];exact (hX.kept ((Below.refl _ _).alloc (Nat.le_refl _) _)).rb
       case bod=>
        rw [hrec]
        have hzx:zc+5 < X.heap.size:=(Array.getElem?_eq_some_iff.1 hX.rb).1
        have hB:=(hX.kept ((Below.refl _ _).alloc (Nat.le_refl _) (.cells #[.int .i64 0,.int .u32 0,.string ⟨#[]⟩,.int .i64 0,.int .u32 0,.int .u32 0,.int .u32 0] 76))).busy (st':=.busy) H0.out
        have hbx:=(Bk.fresh X 76 #[.int .i64 0,.int .u32 0,.string ⟨#[]⟩,.int .i64 0,.int .u32 0,.int .u32 0,.int .u32 0]).put (l:=zc+5) (.loop (rec .busy none)) (by omega)
        generalize ((X.alloc (.cells #[.int .i64 0,.int .u32 0,.string ⟨#[]⟩,.int .i64 0,.int .u32 0,.int .u32 0,.int .u32 0] 76)).putObj (zc+5) (.loop (rec .busy none))) = X1 at hB hbx ⊢
        have x0:=hbx.cell 0
        have x1:=hbx.cell 1
        have x2:=hbx.cell 2
        have x3:=hbx.cell 3
        have x4:=hbx.cell 4
        have x5:=hbx.cell 5
        have x6:=hbx.cell 6
        have q0:=hB.r0.cell 0
        have q1:=hB.r1.cell 0
        have y0:=hB.r0.free 0
        have y1:=hB.r1.free 0
        have HB:=Lib.hid hB
        have HBAD:=Lib.hid (show ∀ l,¬ Dc.Good b heads l from fun l hl=>by
         obtain ⟨pre,v,_,_,_,_,l5⟩:=hX.ls
         have:=l5.bad ha hok
         rw [hl.all] at this
         cases this)
        clear hB hX hbX hJ hr hrec hbx hok hW1 hInto hO5 hcap hdsW hglW hz4 hzw
        gi_wp2
        have hst:=HB.out.stop HBAD.out
        exact ⟨hst.1,false,rfl,hst.2⟩
     ·rintro e W' ⟨hv,⟨last,hJ⟩ | hJ⟩
      ·exact ⟨hv,.inl ⟨hJ.rb,rec,last,hJ⟩⟩
      ·exact ⟨hv,.inr ⟨_,hJ.rb,rec,hJ,rfl⟩⟩
   ·have hk32:32≤k:=by omega
    have hlt':¬ (k:Int) < 32:=by omega
    have HALL:=Lib.hid (hO.at_.done hk32)
    obtain ⟨v,l1,l2,l3⟩:=hO.ls.ls
    obtain ⟨A1,c1,rfl⟩:=(Rd.of_own l2).form
    have CSRT:=Lib.hid (dsort_all W (gl+1) (.slice A1 pre.length c1) pre l2 (by have:=hO.most;omega))
    have q7:=l1.cell 0
    have HO:=Lib.hid hO
    have L1:=Lib.hid l1
    have L2:=Lib.hid l2
    have L3:=Lib.hid l3
    clear hO l1 l2 l3 hk hlt hk32
    gi_wp2_with (refine ⟨trivial,?_⟩;gi_at_call 73;refine (callsIn_wide.2 CSRT.out).mono ?_;rintro e w5 ⟨rfl,l',p1,p2,hrd,hk5,ho5,ht5,hu5,hz5⟩)
    have hF:=HO.out.fin L1.out L2.out L3.out hrd hk5 ho5 ht5 hu5 hz5
    have hlen:pre.length = l'.length:=p1.length_eq.symm
    have hmost:=HO.out.most
    have HP:=Lib.hid p1
    have HS:=Lib.hid (Lib.hid p2)
    clear hrd hk5 ho5 ht5 hu5 hz5 p1 p2 CSRT q7
    gi_loopw [12] (fun i wr=>∃ m:Nat,i = .int .i64 ((m:Int)+1)∧(m+1≤l'.length ∨ m = 0)∧Dc.Fin w gl bs (.slice A1 pre.length c1) l' wr∧∀ j,j+1 < m+1→(l'.getD j Dc.w0).at_ < (l'.getD (j+1) Dc.w0).at_) (fun i _=>l'.length+1 - (intOf i).toNat)
    case atStart=>exact ⟨0,rfl,.inr rfl,hF,fun j hj=>by omega⟩
    case round=>
     obtain ⟨m,rfl,hm,hF,hlt⟩:=hrel
     have q7:=hF.lv.cell 0
     have q0:=hF.r0.cell 0
     have q1:=hF.r1.cell 0
     have y0:=hF.r0.free 0
     have y1:=hF.r1.free 0
     by_cases hm1:m+1 < l'.length
     ·obtain ⟨f1,f2,f3,f4⟩:=Dc.m1 (m:=m) (by omega)
      have hm1':(m:Int)+1 < (pre.length:Int):=by omega
      obtain ⟨_,g,off,rfl,hcell⟩:=hF.rd.at (i:=m) (by omega) Dc.w0
      have d1:=hcell m (by omega)
      have d2:=hcell (m+1) hm1
      have HF1:=Lib.hid hF
      have HLT:=Lib.hid hlt
      have HM:=Lib.hid hm1
      have HLEN:=Lib.hid hlen
      have HMOST:=Lib.hid hmost
      clear hF hm hlt hcell hm1 hlen hmost
      have HSRT:=HS.out
      by_cases he:(l'.getD m Dc.w0).at_ = (l'.getD (m+1) Dc.w0).at_
      ·have HB:=Lib.hid (Dc.not_good HALL.out HP.out HM.out he)
       rw [← he] at d2
       generalize (l'.getD m Dc.w0).at_ = t at *
       clear he
       gi_wp2_with fail
       gi_region_o
       gi_wp2
       obtain ⟨s1,s2,s3,s4,s5⟩:=HF1.out.put (.slice none 0 0) 45
       exact Dc.leave (bs:=bs) (v:=.slice none 0 0) (i:=45) s1.drew s2 s3 (fun r hr=>⟨(HF1.out.ds r hr).1,(s4 r (HF1.out.ds r hr).1).trans (HF1.out.ds r hr).2⟩) HF1.out.nd rfl rfl (fun W' hb' _ _=>⟨hb',.inr (.inl ⟨HF.out,HB.out,rfl⟩)⟩)
      ·have HLE:=Lib.hid (show (l'.getD m Dc.w0).at_ < (l'.getD (m+1) Dc.w0).at_ from by
        have hps:=HSRT.out
        rw [List.pairwise_iff_getElem] at hps
        have:=hps m (m+1) (by have:=HM.out;omega) HM.out (Nat.lt_succ_self _)
        have e1:(l'.getD m Dc.w0) = l'[m]'(by have:=HM.out;omega):=by simp [List.getD,List.getElem?_eq_getElem (show m < l'.length by have:=HM.out;omega)]
        have e2:(l'.getD (m+1) Dc.w0) = l'[m+1]'HM.out:=by simp [List.getD,List.getElem?_eq_getElem HM.out]
        rw [e1,e2] at he ⊢
        omega)
       have HLE2:∀ j,j = m→(l'.getD j Dc.w0).at_ < (l'.getD (j+1) Dc.w0).at_:=fun j hj=>by rw [hj];exact HLE.out
       have he':(((l'.getD (m+1) Dc.w0).at_:Int) == ((l'.getD m Dc.w0).at_:Int)) = false:=by rw [beq_eq_false_iff_ne];omega
       generalize (l'.getD (m+1) Dc.w0).at_ = t2 at *
       generalize (l'.getD m Dc.w0).at_ = t1 at *
       clear he
       gi_wp2_with fail
       gi_region_o
       gi_wp2
       go_roundw
       case rel=>
        refine ⟨m+1,by push_cast;rfl,.inl (by have:=HM.out;omega),HF1.out.drew,?_⟩
        intro j hj
        by_cases hjm:j = m
        ·exact HLE2 j hjm
        ·exact HLT.out j (by omega)
       case measure=>
        have:=HM.out
        simp only [intOf]
        omega
     ·have hm1':¬ (m:Int)+1 < (pre.length:Int):=by omega
      have HG:=Lib.hid (Dc.is_good HALL.out hmost HP.out (fun j hj=>hlt j (by omega)))
      have HF1:=Lib.hid hF
      clear hF hm hlt hm1 hlen hmost
      gi_wp2_with fail
      obtain ⟨s1,s2,s3,s4,s5⟩:=HF1.out.put (.slice A1 pre.length c1) 0
      refine Dc.leave (bs:=bs) (v:=.slice A1 pre.length c1) (i:=0) s1 s2 s3 (fun r hr=>⟨(HF1.out.ds r hr).1,(s4 r (HF1.out.ds r hr).1).trans (HF1.out.ds r hr).2⟩) HF1.out.nd rfl rfl (fun W' hb' hz hk=>⟨hb',.inr (.inr ⟨HF.out,_,l',.slice A1 pre.length c1,HG.out.1,HP.out,HG.out.2,rfl,?_,fun x hx=>by have:=(Dc.own_lt L2.out hx).2;have:=HF1.out.gr;omega⟩)⟩)
      refine HF1.out.rd.keep (by rw [hz,s5];exact Nat.le_refl _) (fun g off c e hn hg=>?_)
      injection e with e1 e2 e3
      subst e1
      have hgb:=(Dc.own_lt L2.out (x:=g) rfl).2
      exact (hk g (L3.out g rfl)).trans (s4 g (by have:=HF1.out.gr;omega))
 ·have HF:=Lib.hid hf
  have HE:∀ W,Below w.heap.size w W→Bk W w.heap.size 67 #[.slice none 0 0]→Bk W (w.heap.size+1) 30 #[.int .i64 0]→Below w.heap.size w ((W.setCell ⟨w.heap.size,0,none⟩ (.slice none 0 0)).setCell ⟨w.heap.size+1,0,none⟩ (.int .i64 1)) ∧
    (((W.setCell ⟨w.heap.size,0,none⟩ (.slice none 0 0)).setCell ⟨w.heap.size+1,0,none⟩ (.int .i64 1)).cell? ⟨w.heap.size,0,none⟩ = some (.slice none 0 0)) ∧
    (((W.setCell ⟨w.heap.size,0,none⟩ (.slice none 0 0)).setCell ⟨w.heap.size+1,0,none⟩ (.int .i64 1)).cell? ⟨w.heap.size+1,0,none⟩ = some (.int .i64 1)):=fun W h0 h1 h2=>Dc.put2 h0 h1 h2
  by_cases c1:b.length < 128
  ·have c1':(b.length:Int) < 128:=by omega
   clear h hM hal hh r0 r1 c1 hr4' hf
   gi_wp2_with (refine ⟨trivial,?_⟩;gi_at_call 70;refine (callsIn_wide.2 CS.out).mono ?_;rintro e w' ⟨rfl,rfl⟩)
   refine ⟨trivial,?_⟩
   gi_wp2_with fail
   obtain ⟨q1,q2,q3⟩:=HE w1 HAL.out R0.out R1.out
   exact ⟨_,Dc.rd_results q2 q3 rfl rfl,q1,.inl ⟨HF.out,rfl⟩⟩
  ·have c1':decide ((b.length:Int) < 128) = false:=by rw [decide_eq_false_iff_not];omega
   by_cases c2:heads % 4 = 0
   ·have hr0:r4 = 0:=by omega
    subst hr0
    have CB:=Lib.hid (fun (W:World) (hW:Below w1.heap.size w1 W)=>bytes_out W gm gb b hs heads 128 hh (hM.kept hW) (fun hx=>hf ⟨by omega,c2,by omega⟩))
    clear h hM hal hh r0 r1 c1 hr4' c2 hf
    gi_wp2_with (refine ⟨trivial,?_⟩;first | (gi_at_call 70;refine (callsIn_wide.2 CS.out).mono ?_;rintro e w' ⟨rfl,rfl⟩) | (gi_at_call 37;refine (callsIn_wide.2 (CB.out _ (Below.refl _ _))).mono ?_;rintro e w2 ⟨rfl,rfl⟩))
    obtain ⟨q1,q2,q3⟩:=HE w1 HAL.out R0.out R1.out
    exact ⟨_,Dc.rd_results q2 q3 rfl rfl,q1,.inl ⟨HF.out,rfl⟩⟩
   ·have hr0:((r4:Int) != 0) = true:=by rw [bne_iff_ne];omega
    clear h hM hal hh r0 r1 c1 hr4' hf c2
    gi_wp2_with (refine ⟨trivial,?_⟩;gi_at_call 70;refine (callsIn_wide.2 CS.out).mono ?_;rintro e w' ⟨rfl,rfl⟩)
    refine ⟨trivial,?_⟩
    gi_wp2_with fail
    obtain ⟨q1,q2,q3⟩:=HE w1 HAL.out R0.out R1.out
    exact ⟨_,Dc.rd_results q2 q3 rfl rfl,q1,.inl ⟨HF.out,rfl⟩⟩
end Go.Proofs.YtpcpaoeajcjoiaaGreatDoor
