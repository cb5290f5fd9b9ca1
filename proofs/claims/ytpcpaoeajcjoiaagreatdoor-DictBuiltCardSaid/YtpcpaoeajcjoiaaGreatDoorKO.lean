/- Texts joined, what is not reached left out. -/
import Derived.Test.YtpcpaoeajcjoiaaGreatDoorKC
import Derived.Sort.CutIn
set_option linter.unusedVariables false
set_option linter.unusedSimpArgs false
namespace Go.Proofs.YtpcpaoeajcjoiaaGreatDoor
open Go.RowKit Go.Shelf Kit
theorem llrt:RowTy Tryz.prog 33 105 3 64:=
 ⟨Tryz.underlying33,by
  have h:(Tryz.prog.info? 105).map (fun i=>(i.zero,i.size,i.bytes)) = some (some (.agg #[.slice none 0 0,.string ByteArray.empty,.slice none 0 0]),3,64):=by kernel_rfl
  obtain ⟨i,h1,h2,h3,h4⟩:=info_parts h
  exact ⟨i,_,h1,h2,h3,h4,by kernel_rfl⟩⟩
def LinesV (base:Nat) (w:World):List L6.Line→List Value→Prop
 | [],cs=>cs = []
 | x :: t,cs=>∃ vl va r,cs = vl :: .string ⟨x.word.toArray⟩ :: va :: r∧OwnS base w vl x.labels∧OwnS base w va x.args∧LinesV base w t r
theorem LinesV.map {base:Nat} {w w':World} (h:∀ v l,OwnS base w v l→OwnS base w' v l):∀ {ls:List L6.Line} {cs:List Value},LinesV base w ls cs→LinesV base w' ls cs
 | [],_,e=>e
 | _ :: _,_,⟨vl,va,r,e,h1,h2,h3⟩=>⟨vl,va,r,e,h _ _ h1,h _ _ h2,LinesV.map h h3⟩
theorem LinesV.snoc {base:Nat} {w:World} {x:L6.Line} {vl va:Value} (h1:OwnS base w vl x.labels) (h2:OwnS base w va x.args):∀ {ls:List L6.Line} {cs:List Value},LinesV base w ls cs→LinesV base w (ls ++ [x]) (cs ++ [vl,.string ⟨x.word.toArray⟩,va])
 | [],_,e=>by
  have e:_ = []:=e
  subst e
  exact ⟨vl,va,[],rfl,h1,h2,rfl⟩
 | _ :: _,_,⟨vl',va',r,e,g1,g2,g3⟩=>by subst e;exact ⟨vl',va',_,rfl,g1,g2,LinesV.snoc h1 h2 g3⟩
def OwnL (base:Nat) (w:World) (v:Value) (ls:List L6.Line):Prop:=∃ cs,w.ownsRow base 105 3 v ls.length cs∧LinesV base w ls cs
theorem OwnL.nil (base:Nat) (w:World):OwnL base w (.slice none 0 0) []:=⟨[],World.ownsRow_nil w base 105 3,rfl⟩
theorem OwnL.kept {base:Nat} {w w':World} {v:Value} {ls:List L6.Line} (h:OwnL base w v ls) (hb:Below w.heap.size w w'):OwnL base w' v ls:=by
 obtain ⟨cs,h1,h2⟩:=h
 exact ⟨cs,own_kept h1 hb,h2.map fun _ _ h=>h.kept hb⟩
theorem OwnL.form {base:Nat} {w:World} {v:Value} {ls:List L6.Line} (h:OwnL base w v ls):∃ A c,v = .slice A ls.length c:=by
 obtain ⟨cs,h1,_⟩:=h
 exact (Rd.of_own h1).form
theorem own_up {w w':World} {base:Nat} {e:TypeId} {size:Nat} {v:Value} {n:Nat} {xs:List Value} (h:w.ownsRow base e size v n xs) (hk:∀ g,base≤g→g < w.heap.size→w'.heap[g]? = w.heap[g]?):w'.ownsRow base e size v n xs:=by
 obtain ⟨h1,h2⟩:=h
 refine ⟨h1,?_⟩
 rcases h2 with h2 | ⟨g,cap,cur,rfl,hb',hh,rest⟩
 ·exact .inl h2
 ·exact .inr ⟨g,cap,cur,rfl,hb',(hk g hb' (Array.getElem?_eq_some_iff.1 hh).1).trans hh,rest⟩
theorem OwnL.up {base:Nat} {w w':World} {v:Value} {ls:List L6.Line} (h:OwnL base w v ls) (hk:∀ g,base≤g→g < w.heap.size→w'.heap[g]? = w.heap[g]?):OwnL base w' v ls:=by
 obtain ⟨cs,h1,h2⟩:=h
 exact ⟨cs,own_up h1 hk,h2.map fun _ _ h=>own_up h hk⟩
theorem OwnL.rebase {base base':Nat} {w:World} {v:Value} {ls:List L6.Line} (h:OwnL base w v ls) (hb:base'≤base):OwnL base' w v ls:=by
 obtain ⟨cs,h1,h2⟩:=h
 refine ⟨cs,own_rebase h1 hb,?_⟩
 clear h1
 induction ls generalizing cs with
 | nil=>exact h2
 | cons x t ih=>
  obtain ⟨vl,va,r,e,g1,g2,g3⟩:=h2
  exact ⟨vl,va,r,e,g1.rebase hb,g2.rebase hb,ih _ g3⟩
theorem OwnL.grown {base:Nat} {w w1 w':World} {v v' vl va:Value} {ls:List L6.Line} {x:L6.Line} {cs:List Value} (h2:LinesV base w ls cs) (hv:w1.ownsRow base 105 3 v ls.length cs) (hb:Below w.heap.size w w1)
  (hl:OwnS base w1 vl x.labels) (ha:OwnS base w1 va x.args) (ho:w'.ownsRow base 105 3 v' (ls.length+1) (cs ++ [vl,.string ⟨x.word.toArray⟩,va])) (hg:w1.grownBy w' v.ownBlock):OwnL base w' v' (ls ++ [x]):=by
 have keep:∀ u l,OwnS base w1 u l→OwnS base w' u l:=by
  intro u l hu
  obtain ⟨e1,e2⟩:=hu
  refine ⟨e1,?_⟩
  rcases e2 with e2 | ⟨g',cap,cur,rfl,hb',hh,rest⟩
  ·exact .inl e2
  ·refine .inr ⟨g',cap,cur,rfl,hb',(hg.block g' (Array.getElem?_eq_some_iff.1 hh).1 (fun e=>?_)).trans hh,rest⟩
   obtain ⟨_,q⟩:=hv
   rcases q with ⟨rfl,_⟩ | ⟨g2,cap2,cur2,rfl,_,hh2,_⟩
   ·simp [Value.ownBlock] at e
   ·simp [Value.ownBlock] at e
    subst e
    rw [hh] at hh2
    simp at hh2
 refine ⟨_,by simpa using ho,LinesV.snoc (keep _ _ hl) (keep _ _ ha) (h2.map fun u l hu=>keep _ _ (hu.kept hb))⟩
theorem L6.next_sum (c:UInt8) (t:List UInt8):(L6.next (c :: t)).1.length+(L6.next (c :: t)).2.1.length≤(c :: t).length:=by
 by_cases h34:c = 34
 ·rw [L6.next_quote h34]
  cases hq:L6.quote t with
  | none=>simp
  | some p=>
   have:=congrArg List.length (L6.quote_len t p hq)
   simp only [List.length_append,List.length_cons] at this ⊢
   omega
 ·rw [L6.next_plain h34]
  have:=congrArg List.length (L6.word_behind (c :: t))
  simp only [List.length_append] at this
  show (L6.word (c :: t)).length+(L6.behind (c :: t)).length≤(c :: t).length
  omega
theorem L6.words_bound:∀ (n:Nat) (l:List UInt8) (ws:List (List UInt8)),L6.words n l = some ws→ws.length≤l.length∧∀ x ∈ ws,x.length≤l.length
 | 0,l,ws,h=>by cases h;simp
 | n+1,l,ws,h=>by
  unfold L6.words at h
  cases hb:L6.bare l with
  | nil=>rw [hb] at h;cases h;simp
  | cons c t=>
   rw [hb] at h
   simp only at h
   have h1:=L6.bare_len l
   have h2:=L6.next_len c t (L6.bare_head hb)
   have h3:=L6.next_sum c t
   rw [hb] at h1
   split at h
   ·cases h;simp
   ·split at h
    ·cases hw:L6.words n (L6.next (c :: t)).2.1 with
     | none=>rw [hw] at h;cases h
     | some r=>
      rw [hw] at h
      cases h
      obtain ⟨g1,g2⟩:=L6.words_bound n _ r hw
      refine ⟨by simp only [List.length_cons] at h1 h2 ⊢;omega,fun x hx=>?_⟩
      rcases List.mem_cons.1 hx with rfl | hx
      ·omega
      ·have:=g2 x hx;omega
    ·cases h
theorem L6.wordsOf_bound {l:List UInt8} {ws:List (List UInt8)} (h:L6.wordsOf l = some ws):ws.length≤l.length∧∀ x ∈ ws,x.length≤l.length:=L6.words_bound _ _ _ h
theorem step_appendIn {F:Fence} {n':Nat} {P:Program} {w:World} {ops:Array Oper} {o:Oper} {a:Act} {K:Act→World→Prop} {Q:Exit→Act→World→Prop} {E:Prop} (hgd:o.guard = none) (s x:Operand) (t tx:TypeId)
  (ho:o.op = .call { callee:=.builtin .append,args:=#[s,x],argTypes:=#[t,tx] }) {e:TypeId} {size bytes:Nat} (rt:RowTy P t e size bytes) (hsz:0 < size) (base:Nat) (v:Value) (hs:a.eval s = v) (n:Nat) (xs:List Value)
  (hown:w.ownsRow base e size v n xs) (vx:Value) (hx:a.eval x = vx) (m:Nat) (news:List Value) (hsrc:Src P size tx vx m news w) (hlen:(n+m) * bytes≤140737488355328) (h63:n+m≤maxLen) (hbase:base≤w.heap.size)
  (h:∀ v' w',w'.ownsRow base e size v' (n+m) (xs ++ news)→Below base w w'→w.grownBy w' v.ownBlock→K (a.put o.dst v') w') :
  if Region.wanted o (yielded ops a.tmps) = true then Oper.wpIn F n' P o a w K Q else E:=by
 have hw:Region.wanted o (yielded ops a.tmps) = true:=by simp [Region.wanted,hgd]
 rw [if_pos hw]
 obtain ⟨v',w',hr,h2,h3,h4⟩:=run_appendR (P:=P) w tx o.type rt hsz base v n xs hown vx m news hsrc hlen h63 hbase
 unfold Oper.wpIn
 refine ⟨?_,?_⟩
 ·simp [Oper.about,ho,resolve,Target.leads,Sem.run_pure]
 ·rw [Oper.semAt_plain F _ _ (by rw [ho];intro c hc';cases hc')]
  unfold execOp
  simp only [ho,resolve,invoke,builtin,Sem.run_bind,Sem.run_pure,Result.andThen_ok,List.map_toArray,List.map_cons,List.map_nil,hs,hx,hr]
  exact h v' w' h2 h3 h4
end Go.Proofs.YtpcpaoeajcjoiaaGreatDoor
namespace Go.Proofs.YtpcpaoeajcjoiaaGreatDoor
open Go.RowKit Kit
theorem byte_eq (c d:UInt8):((c.toNat:Int) == (d.toNat:Int)) = (c == d):=by
 rw [Bool.eq_iff_iff,beq_iff_eq,beq_iff_eq]
 exact ⟨fun h=>UInt8.toNat_inj.1 (by omega),fun h=>by rw [h]⟩
def ROwnL (base:Nat) (w:World) (v:Value) (ls:List L6.Line):Prop:=∃ cs,w.ownsRow base 93 3 v ls.length cs∧LinesV base w ls cs
theorem ROwnL.nil (base:Nat) (w:World):ROwnL base w (.slice none 0 0) []:=⟨[],World.ownsRow_nil w base 93 3,rfl⟩
theorem ROwnL.kept {base:Nat} {w w':World} {v:Value} {ls:List L6.Line} (h:ROwnL base w v ls) (hb:Below w.heap.size w w'):ROwnL base w' v ls:=by
 obtain ⟨cs,h1,h2⟩:=h
 exact ⟨cs,own_kept h1 hb,h2.map fun _ _ h=>h.kept hb⟩
theorem ROwnL.form {base:Nat} {w:World} {v:Value} {ls:List L6.Line} (h:ROwnL base w v ls):∃ A c,v = .slice A ls.length c:=by
 obtain ⟨cs,h1,_⟩:=h
 exact (Rd.of_own h1).form
theorem OwnS.grown {base base':Nat} {w1 w':World} {v u:Value} {n:Nat} {cs:List Value} {l:List (List UInt8)} (hv:w1.ownsRow base' 93 3 v n cs) (hg:w1.grownBy w' v.ownBlock) (hu:OwnS base w1 u l):OwnS base w' u l:=by
 obtain ⟨e1,e2⟩:=hu
 refine ⟨e1,?_⟩
 rcases e2 with e2 | ⟨g',cap,cur,rfl,hb',hh,rest⟩
 ·exact .inl e2
 ·refine .inr ⟨g',cap,cur,rfl,hb',(hg.block g' (Array.getElem?_eq_some_iff.1 hh).1 (fun e=>?_)).trans hh,rest⟩
  obtain ⟨_,q⟩:=hv
  rcases q with ⟨rfl,_⟩ | ⟨g2,cap2,cur2,rfl,_,hh2,_⟩
  ·simp [Value.ownBlock] at e
  ·simp [Value.ownBlock] at e
   subst e
   rw [hh] at hh2
   simp at hh2
theorem ROwnL.grown {base:Nat} {w w1 w':World} {v v' vl va:Value} {ls:List L6.Line} {x:L6.Line} {cs:List Value} (h2:LinesV base w ls cs) (hv:w1.ownsRow base 93 3 v ls.length cs) (hb:Below w.heap.size w w1)
  (hl:OwnS base w1 vl x.labels) (ha:OwnS base w1 va x.args) (ho:w'.ownsRow base 93 3 v' (ls.length+1) (cs ++ [vl,.string ⟨x.word.toArray⟩,va])) (hg:w1.grownBy w' v.ownBlock):ROwnL base w' v' (ls ++ [x]):=
 ⟨_,by simpa using ho,LinesV.snoc (OwnS.grown hv hg hl) (OwnS.grown hv hg ha) (h2.map fun u l hu=>OwnS.grown hv hg (hu.kept hb))⟩
theorem RdS.at {w:World} {v:Value} {l:List (List UInt8)} (h:RdS w v l) {k:Nat} (hk:k < l.length):∃ g off c,v = .slice (some ⟨g,off,none⟩) l.length c∧g < w.heap.size∧w.cell? ⟨g,off+k,none⟩ = some (.string ⟨(l.getD k []).toArray⟩):=by
 obtain ⟨hl,A,c,rfl,h2,h3,h4⟩:=h
 obtain ⟨g,off,rfl,hg,hc⟩:=h4 (by omega)
 refine ⟨g,off,c,rfl,hg,?_⟩
 refine hc k _ ?_
 simp [L6.sv,List.getD,List.getElem?_eq_getElem hk]
theorem RdS.drop {w:World} {v:Value} {l:List (List UInt8)} (h:RdS w v l) {k:Nat} (hk:k≤l.length) :
  ∃ v2,(∀ (K:IntKind) W,(Instr.slice 61 v (some (.int K (k:Int))) none none).run Tryz.prog W = .ok v2 W)∧RdS w v2 (l.drop k)∧∀ A c,v = .slice A l.length c→v2 = sliced A k l.length c 1:=by
 obtain ⟨hl,A,c,rfl,h2,h3,h4⟩:=h
 refine ⟨sliced A k l.length c 1,?_,?_,fun A' c' e=>by injection e with e1 e2 e3;rw [e1,e3]⟩
 ·intro K W
  have h3':=h3
  unfold maxLen at h3'
  have helem:Tryz.prog.elem 61 = 9:=by simp [Program.elem,Tryz.underlying61]
  have ht:Tryz.prog.underlying 61 = some (.slice (Tryz.prog.elem 61)):=by rw [helem];exact Tryz.underlying61
  obtain ⟨i,z,hi,hz,hs,hb,hzs⟩:=lsrt.info
  have hsz:(sizeOf (Tryz.prog.elem 61)).run Tryz.prog W = .ok 1 W:=by rw [helem];simp [sizeOf,typeInfo,hi,hs]
  rw [run_slice_l (w:=W) 61 _ _ _ ht K k (by omega) (by simp <;> omega),hsz]
  simp
 ·refine ⟨by simp [L6.sv],?_⟩
  unfold sliced
  by_cases hkl:k = l.length
  ·subst hkl
   have hd:l.drop l.length = []:=List.drop_of_length_le (Nat.le_refl _)
   rw [hd]
   by_cases hcl:c = l.length
   ·exact ⟨A,c - l.length,by rw [if_pos hcl];simp,by simp,by omega,fun hn=>by simp at hn⟩
   ·exact ⟨A.map (·.add (l.length * 1)),c - l.length,by rw [if_neg hcl];simp,by simp,by omega,fun hn=>by simp at hn⟩
  ·obtain ⟨g,off,rfl,hg,hc⟩:=h4 (by omega)
   have hcl:c ≠ k:=by omega
   refine ⟨some ⟨g,off+k,none⟩,c - k,by rw [if_neg hcl];simp [addr_add],by simp;omega,by omega,fun _=>⟨g,off+k,rfl,hg,fun j u hu=>?_⟩⟩
   have:=hc (k+j) u (by simpa [L6.sv,List.getElem?_drop] using hu)
   rw [show off+k+j = off+(k+j) by omega]
   exact this
end Go.Proofs.YtpcpaoeajcjoiaaGreatDoor
