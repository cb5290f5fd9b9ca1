/- Texts joined, what is not reached left out. -/
import Derived.Test.YtpcpaoeajcjoiaaGreatDoorCP
import Derived.Test.YtpcpaoeajcjoiaaGreatDoorKX
import Derived.Test.YtpcpaoeajcjoiaaGreatDoorQF8Base
import Derived.Test.YtpcpaoeajcjoiaaGreatDoorBD
import Derived.Test.YtpcpaoeajcjoiaaGreatDoorKU
set_option linter.unusedVariables false
set_option linter.unusedSimpArgs false
namespace Go.Proofs.YtpcpaoeajcjoiaaGreatDoor
open Go.RowKit Kit
theorem xwrt : RowTy Tryz.prog 134 145 3 48:=
 ⟨Tryz.underlying134,by
  have h : (Tryz.prog.info? 145).map (fun i=>(i.zero,i.size,i.bytes)) = some (some (.agg #[.string ByteArray.empty,.int .i64 0,.slice none 0 0]),3,48):=by kernel_rfl
  obtain ⟨i,h1,h2,h3,h4⟩:=info_parts h
  exact ⟨i,_,h1,h2,h3,h4,by kernel_rfl⟩⟩
theorem xort : RowTy Tryz.prog 135 332 2 32:=
 ⟨Tryz.underlying135,by
  have h : (Tryz.prog.info? 332).map (fun i=>(i.zero,i.size,i.bytes)) = some (some (.agg #[.string ByteArray.empty,.string ByteArray.empty]),2,32):=by kernel_rfl
  obtain ⟨i,h1,h2,h3,h4⟩:=info_parts h
  exact ⟨i,_,h1,h2,h3,h4,by kernel_rfl⟩⟩
def Xc.Ws (R : Value → List (List UInt8) → Prop) : List Xc.W → List Value → Prop
 | [],cs=>cs = []
 | x :: t,cs=>∃ vl r,cs = .string ⟨x.first.toArray⟩ :: .int .i64 (x.flags : Int) :: vl :: r ∧ R vl x.lines ∧ Xc.Ws R t r
def Xc.blks (cs : List Value) : List Nat:=cs.filterMap Value.ownBlock
theorem Xc.blks_app (a b : List Value) : Xc.blks (a ++ b) = Xc.blks a ++ Xc.blks b:=List.filterMap_append
theorem Xc.blks_three (f : ByteArray) (n : Int) (v : Value) : Xc.blks [.string f,.int .i64 n,v] = v.ownBlock.toList:=by
 have e1 : (Value.string f).ownBlock = none:=rfl
 have e2 : (Value.int .i64 n).ownBlock = none:=rfl
 unfold Xc.blks
 cases h : v.ownBlock <;> simp [List.filterMap_cons,e1,e2,h]
theorem Xc.blks_cons (f : ByteArray) (n : Int) (v : Value) (r : List Value) : Xc.blks (.string f :: .int .i64 n :: v :: r) = v.ownBlock.toList ++ Xc.blks r:=by
 have:=Xc.blks_app [.string f,.int .i64 n,v] r
 rw [Xc.blks_three] at this
 exact this
theorem Xc.Ws.len {R : Value → List (List UInt8) → Prop} : ∀ {ws : List Xc.W} {cs : List Value},Xc.Ws R ws cs → cs.length = ws.length * 3
 | [],cs,e=>by have e : cs = []:=e;subst e;rfl
 | x :: t,cs,⟨vl,r,e,h1,h2⟩=>by subst e;have:=h2.len;simp only [List.length_cons,this];omega
theorem Xc.Ws.mapIf {R R' : Value → List (List UInt8) → Prop} {P : Nat → Prop} (h : ∀ u l,(∀ k,u.ownBlock = some k → P k) → R u l → R' u l) : ∀ {ws : List Xc.W} {cs : List Value},Xc.Ws R ws cs → (∀ k ∈ Xc.blks cs,P k) → Xc.Ws R' ws cs
 | [],_,e,_=>e
 | x :: t,_,⟨vl,r,e,h1,h2⟩,hp=>by
  subst e
  rw [Xc.blks_cons] at hp
  exact ⟨vl,r,rfl,h vl x.lines (fun k hk=>hp k (by simp [hk])) h1,Xc.Ws.mapIf h h2 (fun k hk=>hp k (by simp [hk]))⟩
theorem Xc.Ws.snoc {R : Value → List (List UInt8) → Prop} {x : Xc.W} {vl : Value} (h1 : R vl x.lines) : ∀ {ws : List Xc.W} {cs : List Value},Xc.Ws R ws cs → Xc.Ws R (ws ++ [x]) (cs ++ [.string ⟨x.first.toArray⟩,.int .i64 (x.flags : Int),vl])
 | [],cs,e=>by have e : cs = []:=e;subst e;exact ⟨vl,[],rfl,h1,rfl⟩
 | _ :: _,_,⟨vl',r,e,g1,g2⟩=>by subst e;exact ⟨vl',_,rfl,g1,Xc.Ws.snoc h1 g2⟩
theorem Xc.Ws.unsnoc {R : Value → List (List UInt8) → Prop} {x : Xc.W} : ∀ {ws : List Xc.W} {cs : List Value},Xc.Ws R (ws ++ [x]) cs → ∃ ci vl,cs = ci ++ [.string ⟨x.first.toArray⟩,.int .i64 (x.flags : Int),vl] ∧ Xc.Ws R ws ci ∧ R vl x.lines
 | [],cs,⟨vl,r,e,h1,h2⟩=>by
  have h2 : r = []:=h2
  subst h2
  exact ⟨[],vl,e,rfl,h1⟩
 | y :: t,cs,⟨vl,r,e,h1,h2⟩=>by
  obtain ⟨ci,v2,e2,g1,g2⟩:=Xc.Ws.unsnoc (ws:=t) h2
  subst e2 e
  exact ⟨_,v2,rfl,⟨vl,ci,rfl,h1,g1⟩,g2⟩
theorem Xc.upd_snoc (f : Xc.W → Xc.W) (x : Xc.W) : ∀ (ws : List Xc.W),Xc.upd f (ws ++ [x]) = ws ++ [f x]
 | []=>rfl
 | [y]=>rfl
 | y :: z :: t=>by
  have:=Xc.upd_snoc f x (z :: t)
  simp only [List.cons_append] at this ⊢
  rw [Xc.upd,this]
theorem Xc.words_last {ws : List Xc.W} (h : ws ≠ []) : ∃ init x,ws = init ++ [x]:=by
 rcases List.eq_nil_or_concat ws with e | ⟨i,x,e⟩
 ·exact absurd e h
 ·exact ⟨i,x,by simpa using e⟩
def Xc.cells (S : Xc.S) (tag : List UInt8) (vw vo : Value) : Array Value:=#[.string ⟨S.s.toArray⟩,.string ⟨tag.toArray⟩,vw,.bool S.within,.string ⟨S.name.toArray⟩,vo,.int .i64 (S.made : Int),.string ⟨S.number.toArray⟩]
structure Xc.Mk (F : Nat → Prop) (W : World) (gm : Nat) (tag : List UInt8) (S : Xc.S) : Prop where
 obj : ∃ vw vo cs,Bk W gm 137 (Xc.cells S tag vw vo) ∧ W.ownsRow 0 145 3 vw S.words.length cs ∧ Xc.Ws (OwnS 0 W) S.words cs ∧ (Xc.blks cs).Nodup ∧ W.ownsRow 0 332 2 vo S.opens.length (F8.opc S.opens) ∧
  (∀ k,vw.ownBlock = some k → F k) ∧ (∀ k,vo.ownBlock = some k → F k) ∧ ∀ k ∈ Xc.blks cs,F k
 gm : F gm
 lt : ∀ k,F k → k < W.heap.size
def Xc.To (F : Nat → Prop) (w : World) (gm : Nat) (tag : List UInt8) (S : Xc.S) (w' : World) : Prop:=∃ F',Xc.Mk F' w' gm tag S ∧ Step F w F' w'
theorem Xc.own_fr {F : Nat → Prop} {w w' : World} (h : Fr F w w') {base : Nat} {v : Value} {l : List (List UInt8)} (ho : OwnS base w v l) (hg : ∀ k,v.ownBlock = some k → ¬ F k) : OwnS base w' v l:=h.own ho hg
theorem Xc.Mk.fr {F G : Nat → Prop} {W W' : World} {gm : Nat} {tag : List UInt8} {S : Xc.S} (h : Xc.Mk F W gm tag S) (hf : Fr G W W') (hd : ∀ k,F k → ¬ G k) : Xc.Mk F W' gm tag S:=by
 obtain ⟨vw,vo,cs,h1,h2,h3,h4,h5,h6,h7,h8⟩:=h.obj
 exact ⟨⟨vw,vo,cs,hf.bk h1 (hd _ h.gm),hf.own h2 (fun k hk=>hd k (h6 k hk)),h3.mapIf (P:=F) (fun u l hu ho=>Xc.own_fr hf ho fun k hk=>hd k (hu k hk)) h8,h4,hf.own h5 (fun k hk=>hd k (h7 k hk)),h6,h7,h8⟩,h.gm,fun k hk=>Nat.lt_of_lt_of_le (h.lt k hk) hf.size⟩
theorem Xc.Mk.kept {F : Nat → Prop} {W W' : World} {gm : Nat} {tag : List UInt8} {S : Xc.S} (h : Xc.Mk F W gm tag S) (hb : Below W.heap.size W W') : Xc.Mk F W' gm tag S:=
 h.fr (Fr.of_below (F:=fun _=>False) hb) (fun _ _ h=>h)
theorem Xc.To.refl {F : Nat → Prop} {w : World} {gm : Nat} {tag : List UInt8} {S : Xc.S} (h : Xc.Mk F w gm tag S) : Xc.To F w gm tag S w:=⟨F,h,Step.refl F w⟩
theorem Xc.To.after {F F1 : Nat → Prop} {w w1 w2 : World} {gm : Nat} {tag : List UInt8} {S : Xc.S} (h : Xc.To F1 w1 gm tag S w2) (a : Step F w F1 w1) : Xc.To F w gm tag S w2:=by
 obtain ⟨F2,h1,h2⟩:=h
 exact ⟨F2,h1,a.trans h2⟩
theorem Xc.To.kept {F : Nat → Prop} {w w1 w2 : World} {gm : Nat} {tag : List UInt8} {S : Xc.S} (h : Xc.To F w gm tag S w1) (hb : Below w1.heap.size w1 w2) : Xc.To F w gm tag S w2:=by
 obtain ⟨F1,h1,h2⟩:=h
 exact ⟨F1,h1.kept hb,h2.trans (Step.of_below hb)⟩
theorem Xc.Mk.set {F : Nat → Prop} {W : World} {gm : Nat} {tag : List UInt8} {S S' : Xc.S} (h : Xc.Mk F W gm tag S) (i : Nat) (u : Value) (hw : S'.words = S.words) (ho : S'.opens = S.opens)
  (hc : ∀ vw vo,(Xc.cells S tag vw vo).setIfInBounds i u = Xc.cells S' tag vw vo) : Xc.To F W gm tag S' (W.setCell ⟨gm,i,none⟩ u):=by
 obtain ⟨vw,vo,cs,h1,h2,h3,h4,h5,h6,h7,h8⟩:=h.obj
 have hs:=But.setCell W gm i u
 have hb:=h1.set i u
 rw [hc] at hb
 refine ⟨F,⟨⟨vw,vo,cs,hb,?_,?_,h4,?_,h6,h7,h8⟩,h.gm,fun k hk=>?_⟩,Fr.of_but hs h.gm,fun k hk=>.inl hk⟩
 ·rw [hw];exact own_but h2 h1 (by decide) hs
 ·rw [hw]
  exact h3.mapIf (P:=fun _=>True) (fun u l _ hz=>own_but hz h1 (by decide) hs) (fun _ _=>trivial)
 ·rw [ho];exact own_but h5 h1 (by decide) hs
 ·have:=h.lt k hk;simpa [World.setCell] using this
theorem Xc.blks_lt {W : World} {ws : List Xc.W} {cs : List Value} (h : Xc.Ws (OwnS 0 W) ws cs) : ∀ j ∈ Xc.blks cs,j < W.heap.size:=by
 induction ws generalizing cs with
 | nil=>have h : cs = []:=h;subst h;intro j hj;simp [Xc.blks] at hj
 | cons x t ih=>
  obtain ⟨vl,r,e,h1,h2⟩:=h
  subst e
  intro j hj
  rw [Xc.blks_cons] at hj
  rcases List.mem_append.1 hj with hj | hj
  ·exact own_lt' h1 (by simpa using hj)
  ·exact ih h2 j hj
theorem Xc.Mk.last {F : Nat → Prop} {W : World} {gm : Nat} {tag : List UInt8} {S : Xc.S} {init : List Xc.W} {x : Xc.W} (h : Xc.Mk F W gm tag S) (hS : S.words = init ++ [x]) :
  ∃ gw cap vo vl,Bk W gm 137 (Xc.cells S tag (.slice (some ⟨gw,0,none⟩) (init.length + 1) cap) vo) ∧ init.length + 1 ≤ cap ∧ cap ≤ maxLen ∧ gw < W.heap.size ∧ W.cell? ⟨gw,init.length * 3,none⟩ = some (.string ⟨x.first.toArray⟩) ∧ W.cell? ⟨gw,init.length * 3 + 1,none⟩ = some (.int .i64 (x.flags : Int)) ∧ W.cell? ⟨gw,init.length * 3 + 2,none⟩ = some vl ∧ W.frozen? ⟨gw,init.length * 3 + 1,none⟩ = false ∧ W.frozen? ⟨gw,init.length * 3 + 2,none⟩ = false ∧ OwnS 0 W vl x.lines ∧
   (∀ u,Xc.To F W gm tag ⟨S.s,init ++ [⟨x.first,u,x.lines⟩],S.within,S.name,S.opens,S.made,S.number⟩ (W.setCell ⟨gw,init.length * 3 + 1,none⟩ (.int .i64 (u : Nat)))) ∧
   ∀ v' w1 ls,w1.ownsRow 0 9 1 v' (x.lines.length + ls.length) (L6.sv x.lines ++ L6.sv ls) → W.grownBy w1 vl.ownBlock → (∀ k,v'.ownBlock = some k → vl.ownBlock = some k ∨ W.heap.size ≤ k) →
    w1.cell? ⟨gw,init.length * 3 + 2,none⟩ = some vl ∧ w1.frozen? ⟨gw,init.length * 3 + 2,none⟩ = false ∧ Hid (Xc.To F W gm tag (Xc.put ls S) (w1.setCell ⟨gw,init.length * 3 + 2,none⟩ v')):=by
 obtain ⟨vw,vo,cs,h1,h2,h3,h4,h5,h6,h7,h8⟩:=h.obj
 rw [hS] at h2 h3
 rw [List.length_append,List.length_cons,List.length_nil,Nat.zero_add] at h2
 obtain ⟨ci,vl,rfl,g1,g2⟩:=h3.unsnoc
 have hcl:=g1.len
 have h2':=h2
 obtain ⟨hlen,hrow⟩:=h2
 rcases hrow with ⟨_,h0⟩ | ⟨gw,cap,cur,rfl,_,hh,hnc,hcm,hcs,htake⟩
 ·omega
 have hbk : Bk W gw 145 cur:=hh
 have hcur : ∀ (j : Nat) (u : Value),(ci ++ [Value.string ⟨x.first.toArray⟩,.int .i64 (x.flags : Int),vl])[j]? = some u → cur[j]? = some u:=by
  intro j u hu
  have hj : j < (init.length + 1) * 3:=by have:=(List.getElem?_eq_some_iff.1 hu).1;simp at this;omega
  rw [← htake,List.getElem?_take,if_pos hj] at hu
  simpa using hu
 have k0 : (ci ++ [Value.string ⟨x.first.toArray⟩,.int .i64 (x.flags : Int),vl])[init.length * 3]? = some (.string ⟨x.first.toArray⟩):=by rw [List.getElem?_append_right (by omega),hcl];simp
 have k1 : (ci ++ [Value.string ⟨x.first.toArray⟩,.int .i64 (x.flags : Int),vl])[init.length * 3 + 1]? = some (.int .i64 (x.flags : Int)):=by rw [List.getElem?_append_right (by omega),hcl,show init.length * 3 + 1 - init.length * 3 = 1 by omega];rfl
 have k2 : (ci ++ [Value.string ⟨x.first.toArray⟩,.int .i64 (x.flags : Int),vl])[init.length * 3 + 2]? = some vl:=by rw [List.getElem?_append_right (by omega),hcl,show init.length * 3 + 2 - init.length * 3 = 2 by omega];rfl
 have hgw : F gw:=h6 gw rfl
 rw [Xc.blks_app,Xc.blks_three] at h4 h8
 have hdis:=List.nodup_append.1 h4
 have hset : ∀ (w1 : World) (j : Nat) (u : Value) (cs' : List Value),Bk w1 gw 145 cur → (ci ++ [Value.string ⟨x.first.toArray⟩,.int .i64 (x.flags : Int),vl]).set j u = cs' → (w1.setCell ⟨gw,j,none⟩ u).ownsRow 0 145 3 (.slice (some ⟨gw,0,none⟩) (init.length + 1) cap) (init.length + 1) cs':=by
  intro w1 j u cs' hb e
  subst e
  refine ⟨by rw [List.length_set];exact hlen,.inr ⟨gw,cap,cur.setIfInBounds j u,rfl,Nat.zero_le _,hb.set j u,hnc,hcm,by simpa using hcs,?_⟩⟩
  rw [← htake,Array.toList_setIfInBounds,List.take_set]
 refine ⟨gw,cap,vo,vl,h1,hnc,hcm,hbk.lt,(hbk.cell _).trans (hcur _ _ k0),(hbk.cell _).trans (hcur _ _ k1),(hbk.cell _).trans (hcur _ _ k2),hbk.free _,hbk.free _,g2,fun u=>?_,fun v' w1 ls ho hg hv=>?_⟩
 ·have hs:=But.setCell W gw (init.length * 3 + 1) (.int .i64 (u : Nat))
  have hcs : (ci ++ [Value.string ⟨x.first.toArray⟩,.int .i64 (x.flags : Int),vl]).set (init.length * 3 + 1) (.int .i64 (u : Nat)) = ci ++ [Value.string ⟨x.first.toArray⟩,.int .i64 (u : Int),vl]:=by
   rw [List.set_append_right _ _ (by omega),hcl,show init.length * 3 + 1 - init.length * 3 = 1 by omega];rfl
  have hne : gm ≠ gw:=h1.ne hbk (by decide)
  refine ⟨F,⟨⟨.slice (some ⟨gw,0,none⟩) (init.length + 1) cap,vo,ci ++ [Value.string ⟨x.first.toArray⟩,.int .i64 (u : Int),vl],hs.bk h1 hne,?_,?_,?_,own_but h5 hbk (by decide) hs,h6,h7,?_⟩,h.gm,fun k hk=>?_⟩,Fr.of_but hs hgw,fun k hk=>.inl hk⟩
  ·rw [show (init ++ [(⟨x.first,u,x.lines⟩ : Xc.W)]).length = init.length + 1 by simp]
   exact hset W _ _ _ hbk hcs
  ·exact Xc.Ws.snoc (x:=⟨x.first,u,x.lines⟩) (own_but g2 hbk (by decide) hs) (g1.mapIf (P:=fun _=>True) (fun z l _ hz=>own_but hz hbk (by decide) hs) (fun _ _=>trivial))
  ·rw [Xc.blks_app,Xc.blks_three];exact h4
  ·rw [Xc.blks_app,Xc.blks_three];exact h8
  ·have:=h.lt k hk;simpa [World.setCell] using this
 ·have hvl : ∀ k,vl.ownBlock = some k → F k:=fun k hk=>h8 k (by simp [hk])
  have hbk1 : Bk w1 gw 145 cur:=(hg.block gw hbk.lt (fun e=>own_bk_ne g2 hbk (by decide) e.symm)).trans hbk
  have hgm1 : Bk w1 gm 137 _:=(hg.block gm h1.lt (fun e=>own_bk_ne g2 h1 (by decide) e.symm)).trans h1
  have hfr : Fr F W w1:=Fr.of_grown hg hvl
  have hs:=But.setCell w1 gw (init.length * 3 + 2) v'
  have hne : gm ≠ gw:=h1.ne hbk (by decide)
  refine ⟨(hbk1.cell _).trans (hcur _ _ k2),hbk1.free _,Lib.hid ?_⟩
  have hcs : (ci ++ [Value.string ⟨x.first.toArray⟩,.int .i64 (x.flags : Int),vl]).set (init.length * 3 + 2) v' = ci ++ [Value.string ⟨x.first.toArray⟩,.int .i64 (x.flags : Int),v']:=by
   rw [List.set_append_right _ _ (by omega),hcl,show init.length * 3 + 2 - init.length * 3 = 2 by omega];rfl
  have ho5 : w1.ownsRow 0 332 2 vo S.opens.length (F8.opc S.opens):=own_grown_ne h5 hg (fun k hk=>fun e=>own_uniq h5 g2 (by decide) hk e)
  have hci : Xc.Ws (OwnS 0 w1) init ci:=by
   refine g1.mapIf (P:=fun k=>vl.ownBlock ≠ some k) (fun z l hz hzo=>own_grown_ne hzo hg hz) fun k hk e=>?_
   exact hdis.2.2 k hk k (by simp [e]) rfl
  have hvn : ∀ k,v'.ownBlock = some k → k < w1.heap.size:=fun k hk=>own_lt' ho hk
  refine ⟨fun k=>F k ∨ v'.ownBlock = some k,⟨⟨.slice (some ⟨gw,0,none⟩) (init.length + 1) cap,vo,ci ++ [Value.string ⟨x.first.toArray⟩,.int .i64 (x.flags : Int),v'],hs.bk hgm1 hne,?_,?_,?_,own_but ho5 hbk1 (by decide) hs,fun k hk=>.inl (h6 k hk),fun k hk=>.inl (h7 k hk),?_⟩,.inl h.gm,fun k hk=>?_⟩,⟨?_,fun k hk=>?_⟩⟩
  ·show World.ownsRow _ 0 _ 3 _ (Xc.upd (Xc.add ls) S.words).length _
   rw [hS,Xc.upd_snoc,List.length_append,List.length_cons,List.length_nil,Nat.zero_add]
   exact hset w1 _ _ _ hbk1 hcs
  ·show Xc.Ws _ (Xc.upd (Xc.add ls) S.words) _
   rw [hS,Xc.upd_snoc]
   refine Xc.Ws.snoc (x:=Xc.add ls x) ?_ (hci.mapIf (P:=fun _=>True) (fun z l _ hz=>own_but hz hbk1 (by decide) hs) (fun _ _=>trivial))
   show OwnS 0 _ v' (x.lines ++ ls)
   unfold OwnS
   rw [List.length_append,show L6.sv (x.lines ++ ls) = L6.sv x.lines ++ L6.sv ls by simp [L6.sv]]
   exact own_but ho hbk1 (by decide) hs
  ·rw [Xc.blks_app,Xc.blks_three]
   refine List.nodup_append.2 ⟨hdis.1,by cases v'.ownBlock <;> simp,fun a ha b hb e=>?_⟩
   subst e
   have hb : v'.ownBlock = some a:=by simpa using hb
   rcases hv a hb with e | e
   ·exact hdis.2.2 a ha a (by simp [e]) rfl
   ·have:=Xc.blks_lt g1 a ha;omega
  ·rw [Xc.blks_app,Xc.blks_three]
   intro k hk
   rcases List.mem_append.1 hk with hk | hk
   ·exact .inl (h8 k (by simp [hk]))
   ·exact .inr (by simpa using hk)
  ·have e : (w1.setCell ⟨gw,init.length * 3 + 2,none⟩ v').heap.size = w1.heap.size:=by simp [World.setCell]
   rw [e]
   rcases hk with hk | hk
   ·exact Nat.lt_of_lt_of_le (h.lt k hk) hg.size
   ·exact hvn k hk
  ·exact hfr.trans (Fr.of_but hs hgw) (fun k hk=>.inl hk)
  ·rcases hk with hk | hk
   ·exact .inl hk
   ·rcases hv k hk with e | e
    ·exact .inl (hvl k e)
    ·exact .inr e
theorem Xc.Mk.addW {F : Nat → Prop} {W w1 : World} {gm : Nat} {tag : List UInt8} {S : Xc.S} {f : List UInt8} (h : Xc.Mk F W gm tag S) :
  ∃ vw vo cs,Bk W gm 137 (Xc.cells S tag vw vo) ∧ W.ownsRow 0 145 3 vw S.words.length cs ∧
   ∀ Wa v' w1,Below W.heap.size W Wa → w1.ownsRow 0 145 3 v' (S.words.length + 1) (cs ++ [.string ⟨f.toArray⟩,.int .i64 0,.slice none 0 0]) → Wa.grownBy w1 vw.ownBlock → (∀ k,v'.ownBlock = some k → vw.ownBlock = some k ∨ Wa.heap.size ≤ k) →
    w1.cell? ⟨gm,2,none⟩ = some vw ∧ w1.frozen? ⟨gm,2,none⟩ = false ∧ Hid (Xc.To F W gm tag (Xc.addW f S) (w1.setCell ⟨gm,2,none⟩ v')):=by
 obtain ⟨vw,vo,cs,h1,h2,h3,h4,h5,h6,h7,h8⟩:=h.obj
 refine ⟨vw,vo,cs,h1,h2,fun Wa v' w1 hb ho hg hv=>?_⟩
 have h1a:=h1.kept hb
 have h2a:=own_kept h2 hb
 have h5a:=own_kept h5 hb
 have hgm1 : Bk w1 gm 137 _:=(hg.block gm h1a.lt (fun e=>own_bk_ne h2a h1a (by decide) e.symm)).trans h1a
 have hs:=But.setCell w1 gm 2 v'
 have ho5 : w1.ownsRow 0 332 2 vo S.opens.length (F8.opc S.opens):=own_grown_ne h5a hg (fun k hk=>fun e=>own_uniq h5a h2a (by decide) hk e)
 have hci : Xc.Ws (OwnS 0 w1) S.words cs:=by
  refine h3.mapIf (P:=fun _=>True) (fun z l _ hzo=>?_) (fun _ _=>trivial)
  have hza:=own_kept hzo hb
  exact own_grown_ne hza hg (fun k hk=>fun e=>own_uniq hza h2a (by decide) hk e)
 have hfr : Fr F W w1:=(Fr.of_below hb).trans (Fr.of_grown hg h6) (fun k hk=>.inl hk)
 refine ⟨hgm1.cell 2,hgm1.free 2,Lib.hid ⟨fun k=>F k ∨ v'.ownBlock = some k,⟨⟨v',vo,cs ++ [.string ⟨f.toArray⟩,.int .i64 0,.slice none 0 0],?_,?_,?_,?_,own_but ho5 hgm1 (by decide) hs,fun k hk=>.inr hk,fun k hk=>.inl (h7 k hk),?_⟩,.inl h.gm,fun k hk=>?_⟩,⟨?_,fun k hk=>?_⟩⟩⟩
 ·exact hgm1.set 2 v'
 ·show World.ownsRow _ 0 _ 3 _ (S.words ++ [(⟨f,0,[]⟩ : Xc.W)]).length _
  rw [List.length_append,List.length_cons,List.length_nil,Nat.zero_add]
  exact own_but ho hgm1 (by decide) hs
 ·exact Xc.Ws.snoc (x:=⟨f,0,[]⟩) (World.ownsRow_nil _ _ _ _) (hci.mapIf (P:=fun _=>True) (fun z l _ hz=>own_but hz hgm1 (by decide) hs) (fun _ _=>trivial))
 ·rw [Xc.blks_app,Xc.blks_three]
  simpa [Value.ownBlock] using h4
 ·rw [Xc.blks_app,Xc.blks_three]
  intro k hk
  exact .inl (h8 k (by simpa [Value.ownBlock] using hk))
 ·have e : (w1.setCell ⟨gm,2,none⟩ v').heap.size = w1.heap.size:=by simp [World.setCell]
  rw [e]
  rcases hk with hk | hk
  ·exact Nat.lt_of_lt_of_le (h.lt k hk) (Nat.le_trans hb.size hg.size)
  ·exact own_lt' ho hk
 ·exact hfr.trans (Fr.of_but hs h.gm) (fun k hk=>.inl hk)
 ·rcases hk with hk | hk
  ·exact .inl hk
  ·rcases hv k hk with e | e
   ·exact .inl (h6 k e)
   ·exact .inr (Nat.le_trans hb.size e)
theorem Xc.Mk.wait {F : Nat → Prop} {W : World} {gm : Nat} {tag : List UInt8} {S : Xc.S} (h : Xc.Mk F W gm tag S) (x k0 : List UInt8) :
  ∃ vw vo,Bk W gm 137 (Xc.cells S tag vw vo) ∧ W.ownsRow 0 332 2 vo S.opens.length (F8.opc S.opens) ∧
   ∀ Wa v' w1,Below W.heap.size W Wa → w1.ownsRow 0 332 2 v' (S.opens.length + 1) (F8.opc S.opens ++ [.string ⟨x.toArray⟩,.string ⟨k0.toArray⟩]) → Wa.grownBy w1 vo.ownBlock → (∀ k,v'.ownBlock = some k → vo.ownBlock = some k ∨ Wa.heap.size ≤ k) →
    w1.cell? ⟨gm,5,none⟩ = some vo ∧ w1.frozen? ⟨gm,5,none⟩ = false ∧ Hid (Xc.To F W gm tag (Xc.wait x k0 S) (w1.setCell ⟨gm,5,none⟩ v')):=by
 obtain ⟨vw,vo,cs,h1,h2,h3,h4,h5,h6,h7,h8⟩:=h.obj
 refine ⟨vw,vo,h1,h5,fun Wa v' w1 hb ho hg hv=>?_⟩
 have h1a:=h1.kept hb
 have h2a:=own_kept h2 hb
 have h5a:=own_kept h5 hb
 have hgm1 : Bk w1 gm 137 _:=(hg.block gm h1a.lt (fun e=>own_bk_ne h5a h1a (by decide) e.symm)).trans h1a
 have hs:=But.setCell w1 gm 5 v'
 have ho2 : w1.ownsRow 0 145 3 vw S.words.length cs:=own_grown_ne h2a hg (fun k hk=>fun e=>own_uniq h2a h5a (by decide) hk e)
 have hci : Xc.Ws (OwnS 0 w1) S.words cs:=by
  refine h3.mapIf (P:=fun _=>True) (fun z l _ hzo=>?_) (fun _ _=>trivial)
  have hza:=own_kept hzo hb
  exact own_grown_ne hza hg (fun k hk=>fun e=>own_uniq hza h5a (by decide) hk e)
 have hfr : Fr F W w1:=(Fr.of_below hb).trans (Fr.of_grown hg h7) (fun k hk=>.inl hk)
 refine ⟨hgm1.cell 5,hgm1.free 5,Lib.hid ⟨fun k=>F k ∨ v'.ownBlock = some k,⟨⟨vw,v',cs,?_,own_but ho2 hgm1 (by decide) hs,?_,h4,?_,fun k hk=>.inl (h6 k hk),fun k hk=>.inr hk,fun k hk=>.inl (h8 k hk)⟩,.inl h.gm,fun k hk=>?_⟩,⟨?_,fun k hk=>?_⟩⟩⟩
 ·exact hgm1.set 5 v'
 ·exact hci.mapIf (P:=fun _=>True) (fun z l _ hz=>own_but hz hgm1 (by decide) hs) (fun _ _=>trivial)
 ·show World.ownsRow _ 0 _ 2 _ ((x,k0) :: S.opens).length (F8.opc ((x,k0) :: S.opens))
  rw [F8.opc_cons]
  exact own_but ho hgm1 (by decide) hs
 ·have e : (w1.setCell ⟨gm,5,none⟩ v').heap.size = w1.heap.size:=by simp [World.setCell]
  rw [e]
  rcases hk with hk | hk
  ·exact Nat.lt_of_lt_of_le (h.lt k hk) (Nat.le_trans hb.size hg.size)
  ·exact own_lt' ho hk
 ·exact hfr.trans (Fr.of_but hs h.gm) (fun k hk=>.inl hk)
 ·rcases hk with hk | hk
  ·exact .inl hk
  ·rcases hv k hk with e | e
   ·exact .inl (h7 k e)
   ·exact .inr (Nat.le_trans hb.size e)
theorem Xc.Mk.pop {F : Nat → Prop} {W : World} {gm : Nat} {tag : List UInt8} {S : Xc.S} {p : List UInt8 × List UInt8} {r : List (List UInt8 × List UInt8)} (h : Xc.Mk F W gm tag S) (hS : S.opens = p :: r) :
  ∃ vw gw cap,Bk W gm 137 (Xc.cells S tag vw (.slice (some ⟨gw,0,none⟩) (r.length + 1) cap)) ∧ r.length + 1 ≤ cap ∧ cap ≤ maxLen ∧ gw < W.heap.size ∧ W.cell? ⟨gw,r.length * 2,none⟩ = some (.string ⟨p.1.toArray⟩) ∧ W.cell? ⟨gw,r.length * 2 + 1,none⟩ = some (.string ⟨p.2.toArray⟩) ∧
   Xc.To F W gm tag (Xc.shut r S) (W.setCell ⟨gm,5,none⟩ (.slice (some ⟨gw,0,none⟩) r.length cap)):=by
 obtain ⟨vw,vo,cs,h1,h2,h3,h4,h5,h6,h7,h8⟩:=h.obj
 rw [hS] at h5
 have h5':=h5
 obtain ⟨hlen,hrow⟩:=h5
 rcases hrow with ⟨_,h0⟩ | ⟨gw,cap,cur,rfl,_,hh,hnc,hcm,hcs,htake⟩
 ·simp at h0
 rw [List.length_cons] at *
 have hbk : Bk W gw 332 cur:=hh
 have hopl:=F8.opc_len r
 have hcur : ∀ (j : Nat) (u : Value),(F8.opc r ++ [Value.string ⟨p.1.toArray⟩,.string ⟨p.2.toArray⟩])[j]? = some u → cur[j]? = some u:=by
  intro j u hu
  rw [← F8.opc_cons] at hu
  have hj : j < (r.length + 1) * 2:=by have:=(List.getElem?_eq_some_iff.1 hu).1;rw [F8.opc_len] at this;simpa using this
  rw [← htake,List.getElem?_take,if_pos hj] at hu
  simpa using hu
 have k0 : (F8.opc r ++ [Value.string ⟨p.1.toArray⟩,.string ⟨p.2.toArray⟩])[r.length * 2]? = some (.string ⟨p.1.toArray⟩):=by rw [List.getElem?_append_right (by omega),hopl];simp
 have k1 : (F8.opc r ++ [Value.string ⟨p.1.toArray⟩,.string ⟨p.2.toArray⟩])[r.length * 2 + 1]? = some (.string ⟨p.2.toArray⟩):=by rw [List.getElem?_append_right (by omega),hopl,show r.length * 2 + 1 - r.length * 2 = 1 by omega];rfl
 have hs:=But.setCell W gm 5 (.slice (some ⟨gw,0,none⟩) r.length cap)
 have hpop : W.ownsRow 0 332 2 (.slice (some ⟨gw,0,none⟩) r.length cap) r.length (F8.opc r):=F8.own_pop h5' rfl
 refine ⟨vw,gw,cap,h1,hnc,hcm,hbk.lt,(hbk.cell _).trans (hcur _ _ k0),(hbk.cell _).trans (hcur _ _ k1),F,⟨⟨vw,.slice (some ⟨gw,0,none⟩) r.length cap,cs,h1.set 5 _,own_but h2 h1 (by decide) hs,?_,h4,own_but hpop h1 (by decide) hs,h6,h7,h8⟩,h.gm,fun k hk=>?_⟩,Fr.of_but hs h.gm,fun k hk=>.inl hk⟩
 ·exact h3.mapIf (P:=fun _=>True) (fun u l _ hz=>own_but hz h1 (by decide) hs) (fun _ _=>trivial)
 ·have:=h.lt k hk;simpa [World.setCell] using this
def TxO (w : World) (b : Nat) (l : List UInt8) (W : World) : Prop:=(∃ F,BdF F b l W ∧ ∀ k,F k → w.heap.size ≤ k) ∧ Below w.heap.size w W
structure TxG (w : World) (b g : Nat) (cs : Array Value) (l : List UInt8) (W : World) : Prop where
 has : ∃ F,BdF F b l W ∧ ¬ F g ∧ ∀ k,F k → w.heap.size ≤ k
 box : Bk W g 145 cs
 blo : Below w.heap.size w W
theorem TxG.out {w W : World} {b g : Nat} {cs : Array Value} {l : List UInt8} (h : TxG w b g cs l W) : TxO w b l W:=by
 obtain ⟨F,h1,h2,h3⟩:=h.has
 exact ⟨⟨F,h1,h3⟩,h.blo⟩
theorem TxG.bd {w W : World} {b g : Nat} {cs : Array Value} {l : List UInt8} (h : TxG w b g cs l W) : Bd 0 b l W:=by
 obtain ⟨F,h1,h2,h3⟩:=h.has
 exact h1.bd
theorem TxO.bd {w W : World} {b : Nat} {l : List UInt8} (h : TxO w b l W) : Bd 0 b l W:=by
 obtain ⟨⟨F,h1,h3⟩,_⟩:=h
 exact h1.bd
theorem TxO.start (w : World) : TxO w w.heap.size [] (w.alloc (.cells #[.pointer none,.slice none 0 0] 226)):=
 ⟨⟨fun k=>k = w.heap.size,BdF.fresh _ w rfl (fun k e=>by subst e;exact Nat.lt_succ_self _),fun k e=>by rw [e];exact Nat.le_refl _⟩,(Below.refl _ _).alloc (Nat.le_refl _) _⟩
theorem TxO.enter {w W : World} {b : Nat} {l : List UInt8} (h : TxO w b l W) (cs : Array Value) : TxG w b W.heap.size cs l (W.alloc (.cells cs 145)):=by
 obtain ⟨⟨F,h1,h3⟩,h4⟩:=h
 have hal : Below W.heap.size W (W.alloc (.cells cs 145)):=(Below.refl _ _).alloc (Nat.le_refl _) _
 exact ⟨⟨F,h1.kept hal,fun e=>absurd (h1.2.2 _ e) (Nat.lt_irrefl _),h3⟩,Bk.fresh W _ cs,h4.trans (hal.mono h4.size)⟩
theorem TxG.kept {w W W' : World} {b g : Nat} {cs : Array Value} {l : List UInt8} (h : TxG w b g cs l W) (hb : Below W.heap.size W W') : TxG w b g cs l W':=by
 obtain ⟨F,h1,h2,h3⟩:=h.has
 exact ⟨⟨F,h1.kept hb,h2,h3⟩,h.box.kept hb,h.blo.trans (hb.mono h.blo.size)⟩
theorem TxG.go {w W W' : World} {b g : Nat} {cs : Array Value} {l l' : List UInt8} {F F' : Nat → Prop} (h : TxG w b g cs l W) (h2 : ¬ F g) (h3 : ∀ k,F k → w.heap.size ≤ k) (k1 : BdF F' b l' W') (k2 : Step F W F' W') : TxG w b g cs l' W':=
 ⟨⟨F',k1,fun e=>(k2.new g e).elim h2 (fun q=>absurd h.box.lt (by omega)),k2.later h3 h.blo.size⟩,k2.fr.bk h.box h2,h.blo.trans (k2.below h3 h.blo.size)⟩
theorem TxG.write {w W : World} {b g : Nat} {cs : Array Value} {l : List UInt8} (h : TxG w b g cs l W) (s : List UInt8) (hlen : l.length + s.length ≤ 140737488355328) :
  Calls Tryz.prog 124 #[.pointer (some ⟨b,0,none⟩),.string ⟨s.toArray⟩] W fun e w'=>e = .returned (.tuple #[.int .i64 s.length,.nilIface]) ∧ TxG w b g cs (l ++ s) w':=by
 obtain ⟨F,h1,h2,h3⟩:=h.has
 refine (bfwrite_any h1 s hlen).mono ?_
 rintro e w' ⟨he,F',k1,k2⟩
 exact ⟨he,h.go h2 h3 k1 k2⟩
theorem TxG.byte {w W : World} {b g : Nat} {cs : Array Value} {l : List UInt8} (h : TxG w b g cs l W) (x : UInt8) (hlen : l.length + 1 ≤ 140737488355328) :
  Calls Tryz.prog 125 #[.pointer (some ⟨b,0,none⟩),.int .u8 x.toNat] W fun e w'=>e = .returned .nilIface ∧ TxG w b g cs (l ++ [x]) w':=by
 obtain ⟨F,h1,h2,h3⟩:=h.has
 refine (bfbyte_any h1 x hlen).mono ?_
 rintro e w' ⟨he,F',k1,k2⟩
 exact ⟨he,h.go h2 h3 k1 k2⟩
theorem Xc.lines_len (ls : List (List UInt8)) : (ls.flatMap fun l=>l ++ [10]).length = Xc.lsum ls:=by
 induction ls with
 | nil=>rfl
 | cons x t ih=>rw [List.flatMap_cons,List.length_append,ih,Xc.lsum_cons,List.length_append];rfl
theorem Xc.text_cons (x : Xc.W) (t : List Xc.W) : Xc.text (x :: t) = Xc.textW x ++ Xc.text t:=List.flatMap_cons
theorem Xc.text_snoc (t : List Xc.W) (x : Xc.W) : Xc.text (t ++ [x]) = Xc.text t ++ Xc.textW x:=by simp [Xc.text]
theorem Xc.flags_one {n : Nat} (h : n < 8) : (Lib.decDigits n).length = 1:=by
 rw [Lib.decDigits,dif_pos (by omega)];rfl
theorem Xc.textW_len {x : Xc.W} (h : x.flags < 8) : (Xc.textW x).length ≤ Xc.wt x:=by
 have h1:=Xc.lines_len x.lines
 have h2:=Xc.flags_one h
 unfold Xc.textW Xc.wt
 rw [List.length_append,h1]
 by_cases e : x.first = []
 ·rw [if_pos e];simp
 ·rw [if_neg e]
  cases Lib.hasPrefix x.first Xc.lDef
  ·simp <;> omega
  ·simp [h2] <;> omega
theorem Xc.text_len : ∀ {ws : List Xc.W},(∀ x ∈ ws,x.flags < 8) → (Xc.text ws).length ≤ Xc.weight ws
 | [],_=>Nat.zero_le _
 | x :: t,h=>by
  have h1:=Xc.textW_len (h x (by simp))
  have h2:=Xc.text_len (ws:=t) fun y hy=>h y (by simp [hy])
  have : Xc.weight (x :: t) = Xc.wt x + Xc.weight t:=by simp [Xc.weight]
  rw [Xc.text_cons,List.length_append,this]
  omega
theorem Xc.Ws.at {R : Value → List (List UInt8) → Prop} : ∀ {ws : List Xc.W} {cs : List Value} (k : Nat),Xc.Ws R ws cs → (hk : k < ws.length) →
  ∃ vl,cs[k * 3]? = some (.string ⟨ws[k].first.toArray⟩) ∧ cs[k * 3 + 1]? = some (.int .i64 (ws[k].flags : Int)) ∧ cs[k * 3 + 2]? = some vl ∧ R vl ws[k].lines
 | [],_,_,_,hk=>absurd hk (Nat.not_lt_zero _)
 | x :: t,cs,0,⟨vl,r,e,h1,h2⟩,_=>by subst e;exact ⟨vl,rfl,rfl,rfl,h1⟩
 | x :: t,cs,k + 1,⟨vl,r,e,h1,h2⟩,hk=>by
  subst e
  obtain ⟨v2,e0,e1,e2,hr⟩:=Xc.Ws.at k h2 (Nat.lt_of_succ_lt_succ hk)
  have hm : (k + 1) * 3 = k * 3 + 3:=by omega
  refine ⟨v2,?_,?_,?_,hr⟩
  ·rw [hm];exact e0
  ·rw [hm];exact e1
  ·rw [hm];exact e2
def RdW (w : World) (v : Value) (ws : List Xc.W) : Prop:=∃ cs,Rd w 3 v ws.length cs ∧ Xc.Ws (RdS w) ws cs
theorem RdW.at {w : World} {v : Value} {ws : List Xc.W} (h : RdW w v ws) {k : Nat} (hk : k < ws.length) : ∃ g off c vl,v = .slice (some ⟨g,off,none⟩) ws.length c ∧ g < w.heap.size ∧
  w.cell? ⟨g,off + k * 3,none⟩ = some (.string ⟨ws[k].first.toArray⟩) ∧ w.cell? ⟨g,off + k * 3 + 1,none⟩ = some (.int .i64 (ws[k].flags : Int)) ∧ w.cell? ⟨g,off + k * 3 + 2,none⟩ = some vl ∧ RdS w vl ws[k].lines:=by
 obtain ⟨cs,⟨hl,A,c,rfl,h2,h3,h4⟩,hr⟩:=h
 obtain ⟨g,off,rfl,hg,hc⟩:=h4 (by omega)
 obtain ⟨vl,e0,e1,e2,r1⟩:=hr.at k hk
 exact ⟨g,off,c,vl,rfl,hg,hc _ _ e0,hc _ _ e1,hc _ _ e2,r1⟩
theorem RdW.len {w : World} {v : Value} {ws : List Xc.W} (h : RdW w v ws) : ∃ A c,v = .slice A ws.length c:=by
 obtain ⟨cs,h1,_⟩:=h
 exact h1.form
theorem Xc.take_snoc {ws : List Xc.W} {k : Nat} (h : k < ws.length) : ws.take (k + 1) = ws.take k ++ [ws[k]]:=by
 rw [List.take_add_one,List.getElem?_eq_getElem h];rfl
theorem Xc.lines_snoc {ls : List (List UInt8)} {j : Nat} (h : j < ls.length) : (ls.take (j + 1)).flatMap (fun l=>l ++ [10]) = ((ls.take j).flatMap (fun l=>l ++ [10]) ++ ls.getD j []) ++ [10]:=by
 rw [List.take_add_one,List.getElem?_eq_getElem h,List.flatMap_append,List.getD,List.getElem?_eq_getElem h]
 simp
theorem Xc.lines_take (ls : List (List UInt8)) (j : Nat) : ((ls.take j).flatMap (fun l=>l ++ [10])).length ≤ Xc.lsum ls:=by
 rw [Xc.lines_len]
 conv=>rhs;rw [← List.take_append_drop j ls,Xc.lsum_app]
 omega
theorem Xc.text_take {ws : List Xc.W} (h : ∀ x ∈ ws,x.flags < 8) (k : Nat) : (Xc.text (ws.take k)).length ≤ Xc.weight ws:=by
 have h1:=Xc.text_len (ws:=ws.take k) fun x hx=>h x (List.mem_of_mem_take hx)
 have h2 : Xc.weight ws = Xc.weight (ws.take k) + Xc.weight (ws.drop k):=by rw [← Xc.weight_app,List.take_append_drop]
 omega
theorem tx_up {w : World} {base base' : Nat} {e : TypeId} {size : Nat} {v : Value} {n : Nat} {xs : List Value} (h : w.ownsRow base e size v n xs) (hk : ∀ k,v.ownBlock = some k → base' ≤ k) : w.ownsRow base' e size v n xs:=by
 obtain ⟨h1,h2⟩:=h
 refine ⟨h1,?_⟩
 rcases h2 with h2 | ⟨g,cap,cur,rfl,hb',rest⟩
 ·exact .inl h2
 ·exact .inr ⟨g,cap,cur,rfl,hk g rfl,rest⟩
theorem TxO.bdw {w W : World} {b : Nat} {l : List UInt8} (h : TxO w b l W) : Bd w.heap.size b l W:=by
 obtain ⟨⟨F,h1,h3⟩,h4⟩:=h
 have hB:=h3 _ h1.2.1
 obtain ⟨⟨p,v,hp,hb,ho,hk⟩,hF,hs⟩:=h1
 have hne : v.ownBlock ≠ some b:=own_bk_ne ho hb (by decide)
 have ho' : W.ownsRow w.heap.size 5 1 v (bv l).length (bv l):=by rw [bv_length];exact tx_up ho (fun k e=>h3 k (hk k e))
 rcases hp with rfl | rfl
 ·exact .inl ⟨hB,v,hb,ho',hne⟩
 ·exact .inr ⟨hB,v,hb,ho',hne⟩
set_option maxRecDepth 100000 in
set_option maxHeartbeats 4000000 in
theorem xtext_any (v : Value) (ws : List Xc.W) (w : World) (h : RdW w v ws) (hwt : Xc.weight ws ≤ 200000000) (hfl : ∀ x ∈ ws,x.flags < 8) :
  Calls Tryz.prog 67 #[v] w fun e w'=>e = .returned (.string ⟨(Xc.text ws).toArray⟩) ∧ Below w.heap.size w w':=by
 obtain ⟨A,c,rfl⟩:=h.len
 have HH:=Lib.hid h
 have HW:=Lib.hid hwt
 have HFL:=Lib.hid hfl
 have HLL:=Lib.hid (show ws.length ≤ 200000000 from Nat.le_trans (Xc.weight_len ws) hwt)
 have HS:=Lib.hid (TxO.start w)
 clear h hwt hfl
 go_enter Tryz.func67,Tryz.ntmps67
 go_wp2_with fail
 go_loopw [10] (fun i wi=>∃ k : Nat,i = .int .i64 (k : Int) ∧ k ≤ ws.length ∧ TxO w w.heap.size (Xc.text (ws.take k)) wi) (fun i _=>ws.length - (intOf i).toNat)
 case atStart=>exact ⟨0,rfl,Nat.zero_le _,HS.out⟩
 case round=>
  obtain ⟨k,rfl,hk,htx⟩:=hrel
  have HTX:=Lib.hid htx
  clear htx
  by_cases hlt : k < ws.length
  ·have hlt' : (k : Int) < (ws.length : Int):=by omega
   have hw1 : IntKind.i64.wrap ((k : Int) + 1) = (k : Int) + 1:=by have:=HLL.out;rw [IntKind.wrap_i64];omega
   obtain ⟨g,off,c',vl,e,hg,c0,c1,c2,r1⟩:=HH.out.at hlt
   injection e with e1 e2 e3
   subst e1 e3
   have HX:=Lib.hid (show Xc.text (ws.take (k + 1)) = Xc.text (ws.take k) ++ Xc.textW ws[k] from by rw [Xc.take_snoc hlt,Xc.text_snoc])
   have HXL:=Lib.hid (Nat.le_trans (Xc.weight_mem (List.getElem_mem hlt)) HW.out)
   have HF:=Lib.hid (HFL.out _ (List.getElem_mem hlt))
   have HTL:=Lib.hid (Nat.le_trans (Xc.text_take HFL.out k) HW.out)
   have HLT:=Lib.hid hlt
   have q0:=(HTX.out.2.cell (p:=⟨g,off + k * 3,none⟩) hg).trans c0
   have q1:=(HTX.out.2.cell (p:=⟨g,off + k * 3 + 1,none⟩) hg).trans c1
   have q2:=(HTX.out.2.cell (p:=⟨g,off + k * 3 + 2,none⟩) hg).trans c2
   have HR1:=Lib.hid r1
   clear c0 c1 c2 r1
   generalize hX : ws[k] = X at *
   clear hX
   obtain ⟨f,n,ls⟩:=X
   dsimp only at HR1 q0 q1
   obtain ⟨B,cc,rfl⟩:=HR1.out.form
   have HG:=Lib.hid (HTX.out.enter #[.string ⟨f.toArray⟩,.int .i64 (n : Int),.slice B ls.length cc])
   generalize hl0 : Xc.text (ws.take k) = l0 at *
   by_cases hf : f = []
   ·subst hf
    go_wp2_with fail
    have HLE:=Lib.hid (show ls.length ≤ 200000000 from Nat.le_trans (Xc.lsum_len ls) (by have:=HXL.out;unfold Xc.wt at this;simp only at this;omega))
    have HLS:=Lib.hid (show Xc.lsum ls ≤ 200000000 from by have:=HXL.out;unfold Xc.wt at this;simp only at this;omega)
    go_loopw [32] (fun i wi=>∃ j : Nat,i = .int .i64 (j : Int) ∧ j ≤ ls.length ∧ TxG w w.heap.size wr.heap.size #[.string ⟨#[]⟩,.int .i64 (n : Int),.slice B ls.length cc] (l0 ++ (ls.take j).flatMap fun l=>l ++ [10]) wi) (fun i _=>ls.length - (intOf i).toNat)
    case atStart=>exact ⟨0,rfl,Nat.zero_le _,by rw [List.take_zero,List.flatMap_nil,List.append_nil];exact HG.out⟩
    case round=>
     obtain ⟨j,rfl,hj,htg⟩:=hrel
     have HTG:=Lib.hid htg
     clear htg
     by_cases hjl : j < ls.length
     ·have hjl' : (j : Int) < (ls.length : Int):=by omega
      have hwj : IntKind.i64.wrap ((j : Int) + 1) = (j : Int) + 1:=by have:=HLE.out;rw [IntKind.wrap_i64];omega
      obtain ⟨g2,o2,k2,e2,hg2,hc2⟩:=HR1.out.at hjl
      injection e2 with e21 e22 e23
      subst e21 e23
      have hcr:=(HTG.out.blo.cell (p:=⟨g2,o2 + j,none⟩) hg2).trans hc2
      have HJL:=Lib.hid hjl
      have HSN:=Lib.hid (Xc.lines_snoc hjl)
      have HLT2:=Lib.hid (Nat.le_trans (Xc.lines_take ls j) HLS.out)
      have HYL:=Lib.hid (show (ls.getD j []).length ≤ 200000000 from Nat.le_trans (Xc.lsum_mem (by rw [List.getD,List.getElem?_eq_getElem hjl];exact List.getElem_mem hjl)) HLS.out)
      clear hc2
      generalize ls.getD j [] = y at *
      have CW:=Lib.hid (HTG.out.write y (by have h1:=HTL.out;have h2:=HLT2.out;have h3:=HYL.out;rw [List.length_append];omega))
      have CB:=Lib.hid (fun W (GG : Nat) (h : TxG w w.heap.size GG #[.string ⟨#[]⟩,.int .i64 (n : Int),.slice (some ⟨g2,o2,none⟩) ls.length cc] ((l0 ++ (ls.take j).flatMap fun l=>l ++ [10]) ++ y) W)=>h.byte 10 (by have h1:=HTL.out;have h2:=HLT2.out;have h3:=HYL.out;rw [List.length_append,List.length_append];omega))
      go_wp2_with (first | (go_at_call 124;refine CW.out.mono ?_;rintro e w1 ⟨rfl,h1⟩;have H1:=Lib.hid h1;clear h1) | (go_at_call 125;refine (CB.out _ _ H1.out).mono ?_;rintro e w2 ⟨rfl,h2⟩;have H2:=Lib.hid h2;clear h2))
      go_roundw
      case rel=>exact ⟨j + 1,by simp,HJL.out,by rw [HSN.out,← List.append_assoc,← List.append_assoc];exact H2.out⟩
      case measure=>have:=HJL.out;simp [intOf];omega
     ·obtain rfl : j = ls.length:=by omega
      have HTK:=Lib.hid (show ls.take ls.length = ls from List.take_of_length_le (Nat.le_refl _))
      go_wp2_with fail
      go_roundw
      case rel=>exact ⟨k + 1,by simp,HLT.out,by rw [HX.out];have:=HTG.out.out;rw [HTK.out] at this;simpa [Xc.textW] using this⟩
      case measure=>have:=HLT.out;simp [intOf];omega
   ·have hne : (f == ([] : List UInt8)) = false:=by simpa using hf
    have HNE:=Lib.hid hf
    have HFN:=Lib.hid (show f.length ≤ 200000000 from by have:=HXL.out;unfold Xc.wt at this;simp only at this;omega)
    have CW:=Lib.hid (HG.out.write f (by have h1:=HTL.out;have h2:=HFN.out;omega))
    have CP0:=Lib.hid (fun W=>Tryz.strings_HasPrefix ⟨f.toArray⟩ ⟨#[100,101,102,32]⟩ W)
    clear hf
    cases hp : Lib.hasPrefix f Xc.lDef
    ·have CP:=Lib.hid (fun W=>(CP0.out W).mono (R':=fun e w'=>e = .returned (.bool _) ∧ W = w') (fun e w' h=>⟨h.1.trans (congrArg (fun x=>Ending.returned (.bool x)) hp),h.2.symm⟩))
     have HP:=Lib.hid hp
     clear hp
     have CB0:=Lib.hid (fun W (GG : Nat) cs (h : TxG w w.heap.size GG cs (l0 ++ f) W)=>h.byte 10 (by have h1:=HTL.out;have h2:=HFN.out;rw [List.length_append];omega))
     go_wp2_with (first | (go_at_call 124;refine CW.out.mono ?_;rintro e w1 ⟨rfl,h1⟩;have p0:=h1.box.cell 0;have p1:=h1.box.cell 1;have p2:=h1.box.cell 2;have H1:=Lib.hid h1;clear h1) | (go_at_call 114;refine (CP.out _).mono ?_;rintro e w' ⟨rfl,rfl⟩) | (go_at_call 125;refine (CB0.out _ _ _ H1.out).mono ?_;rintro e w2 ⟨rfl,h2⟩;have p0:=h2.box.cell 0;have p1:=h2.box.cell 1;have p2:=h2.box.cell 2;have H2:=Lib.hid h2;clear h2))
     have HTL2:=Lib.hid (show ((l0 ++ f) ++ [10]).length ≤ 500000000 from by have h1:=HTL.out;have h2:=HFN.out;rw [List.length_append,List.length_append,List.length_singleton];omega)
     generalize hl1 : (l0 ++ f) ++ [10] = l1 at *
     have HLE:=Lib.hid (show ls.length ≤ 200000000 from Nat.le_trans (Xc.lsum_len ls) (by have:=HXL.out;unfold Xc.wt at this;simp only at this;omega))
     have HLS:=Lib.hid (show Xc.lsum ls ≤ 200000000 from by have:=HXL.out;unfold Xc.wt at this;simp only at this;omega)
     go_loopw [32] (fun i wi=>∃ j : Nat,i = .int .i64 (j : Int) ∧ j ≤ ls.length ∧ TxG w w.heap.size wr.heap.size #[.string ⟨f.toArray⟩,.int .i64 (n : Int),.slice B ls.length cc] (l1 ++ (ls.take j).flatMap fun l=>l ++ [10]) wi) (fun i _=>ls.length - (intOf i).toNat)
     case atStart=>exact ⟨0,rfl,Nat.zero_le _,by rw [List.take_zero,List.flatMap_nil,List.append_nil];exact H2.out⟩
     case round=>
      obtain ⟨j,rfl,hj,htg⟩:=hrel
      have HTG:=Lib.hid htg
      clear htg
      by_cases hjl : j < ls.length
      ·have hjl' : (j : Int) < (ls.length : Int):=by omega
       have hwj : IntKind.i64.wrap ((j : Int) + 1) = (j : Int) + 1:=by have:=HLE.out;rw [IntKind.wrap_i64];omega
       obtain ⟨g2,o2,k2,e2,hg2,hc2⟩:=HR1.out.at hjl
       injection e2 with e21 e22 e23
       subst e21 e23
       have hcr:=(HTG.out.blo.cell (p:=⟨g2,o2 + j,none⟩) hg2).trans hc2
       have HJL:=Lib.hid hjl
       have HSN:=Lib.hid (Xc.lines_snoc hjl)
       have HLT2:=Lib.hid (Nat.le_trans (Xc.lines_take ls j) HLS.out)
       have HYL:=Lib.hid (show (ls.getD j []).length ≤ 200000000 from Nat.le_trans (Xc.lsum_mem (by rw [List.getD,List.getElem?_eq_getElem hjl];exact List.getElem_mem hjl)) HLS.out)
       clear hc2
       generalize ls.getD j [] = y at *
       have CW:=Lib.hid (HTG.out.write y (by have h1:=HTL2.out;have h2:=HLT2.out;have h3:=HYL.out;rw [List.length_append];omega))
       have CB:=Lib.hid (fun W (GG : Nat) (h : TxG w w.heap.size GG #[.string ⟨f.toArray⟩,.int .i64 (n : Int),.slice (some ⟨g2,o2,none⟩) ls.length cc] ((l1 ++ (ls.take j).flatMap fun l=>l ++ [10]) ++ y) W)=>h.byte 10 (by have h1:=HTL2.out;have h2:=HLT2.out;have h3:=HYL.out;rw [List.length_append,List.length_append];omega))
       go_wp2_with (first | (go_at_call 124;refine CW.out.mono ?_;rintro e w1 ⟨rfl,h1⟩;have H1:=Lib.hid h1;clear h1) | (go_at_call 125;refine (CB.out _ _ H1.out).mono ?_;rintro e w2 ⟨rfl,h2⟩;have H2:=Lib.hid h2;clear h2))
       go_roundw
       case rel=>exact ⟨j + 1,by simp,HJL.out,by rw [HSN.out,← List.append_assoc,← List.append_assoc];exact H2.out⟩
       case measure=>have:=HJL.out;simp [intOf];omega
      ·obtain rfl : j = ls.length:=by omega
       have HTK:=Lib.hid (show ls.take ls.length = ls from List.take_of_length_le (Nat.le_refl _))
       go_wp2_with fail
       go_roundw
       case rel=>exact ⟨k + 1,by simp,HLT.out,by rw [HX.out];have:=HTG.out.out;rw [HTK.out] at this;subst hl1;simpa [Xc.textW,HNE.out,HP.out] using this⟩
       case measure=>have:=HLT.out;simp [intOf];omega
    ·have CP:=Lib.hid (fun W=>(CP0.out W).mono (R':=fun e w'=>e = .returned (.bool _) ∧ W = w') (fun e w' h=>⟨h.1.trans (congrArg (fun x=>Ending.returned (.bool x)) hp),h.2.symm⟩))
     have HP:=Lib.hid hp
     clear hp
     have HN8:=Lib.hid (show n < 8 from HF.out)
     have HD:=Lib.hid (Xc.flags_one HN8.out)
     have CI:=Lib.hid (fun W=>litoa_any n W (by have:=HN8.out;omega) (.inl (by have:=HN8.out;omega)))
     have hcat : ¬ 9223372036854775807 < 1 + (Lib.decDigits n).length:=by have:=HD.out;omega
     generalize hDD : Lib.decDigits n = D at *
     have CW2:=Lib.hid (fun W (GG : Nat) cs (h : TxG w w.heap.size GG cs (l0 ++ f) W)=>show Calls Tryz.prog 124 #[.pointer (some ⟨w.heap.size,0,none⟩),.string ((⟨#[32]⟩ : ByteArray) ++ (⟨D.toArray⟩ : ByteArray))] W fun e w'=>e = .returned (.tuple #[.int .i64 ([32] ++ D).length,.nilIface]) ∧ TxG w w.heap.size GG cs ((l0 ++ f) ++ ([32] ++ D)) w' from by
      rw [show (⟨#[32]⟩ : ByteArray) ++ (⟨D.toArray⟩ : ByteArray) = ⟨([32] ++ D).toArray⟩ from app_eq [32] D]
      exact h.write ([32] ++ D) (by have h1:=HTL.out;have h2:=HFN.out;have h3:=HD.out;rw [List.length_append,List.length_append,List.length_singleton];omega))
     have CB0:=Lib.hid (fun W (GG : Nat) cs (h : TxG w w.heap.size GG cs ((l0 ++ f) ++ ([32] ++ D)) W)=>h.byte 10 (by have h1:=HTL.out;have h2:=HFN.out;have h3:=HD.out;rw [List.length_append,List.length_append,List.length_append,List.length_singleton];omega))
     go_wp2_with (go_at_call 124;with_reducible refine CW.out.mono ?_;rintro e w1 ⟨rfl,h1⟩;have p0:=h1.box.cell 0;have p1:=h1.box.cell 1;have p2:=h1.box.cell 2;have H1:=Lib.hid h1;clear h1)
     go_wp2_with (go_at_call 114;refine (CP.out _).mono ?_;rintro e w' ⟨rfl,rfl⟩)
     go_wp2_with (go_at_call 61;refine (CI.out _).mono ?_;rintro e w3 ⟨rfl,hb3⟩;have H2:=Lib.hid (H1.out.kept hb3);have p0:=H2.out.box.cell 0;have p1:=H2.out.box.cell 1;have p2:=H2.out.box.cell 2;clear hb3)
     go_wp2_with (go_at_call 124;with_reducible refine (CW2.out _ _ _ H2.out).mono ?_;rintro e w4 ⟨rfl,h4⟩;have p0:=h4.box.cell 0;have p1:=h4.box.cell 1;have p2:=h4.box.cell 2;have H3:=Lib.hid h4;clear h4)
     go_wp2_with (go_at_call 125;refine (CB0.out _ _ _ H3.out).mono ?_;rintro e w2 ⟨rfl,h2⟩;have p0:=h2.box.cell 0;have p1:=h2.box.cell 1;have p2:=h2.box.cell 2;have H5:=Lib.hid h2;clear h2)
     have HTL2:=Lib.hid (show (((l0 ++ f) ++ ([32] ++ D)) ++ [10]).length ≤ 500000000 from by have h1:=HTL.out;have h2:=HFN.out;have h3:=HD.out;rw [List.length_append,List.length_append,List.length_append,List.length_append,List.length_singleton,List.length_singleton];omega)
     generalize hl1 : ((l0 ++ f) ++ ([32] ++ D)) ++ [10] = l1 at *
     have HLE:=Lib.hid (show ls.length ≤ 200000000 from Nat.le_trans (Xc.lsum_len ls) (by have:=HXL.out;unfold Xc.wt at this;simp only at this;omega))
     have HLS:=Lib.hid (show Xc.lsum ls ≤ 200000000 from by have:=HXL.out;unfold Xc.wt at this;simp only at this;omega)
     go_loopw [32] (fun i wi=>∃ j : Nat,i = .int .i64 (j : Int) ∧ j ≤ ls.length ∧ TxG w w.heap.size wr.heap.size #[.string ⟨f.toArray⟩,.int .i64 (n : Int),.slice B ls.length cc] (l1 ++ (ls.take j).flatMap fun l=>l ++ [10]) wi) (fun i _=>ls.length - (intOf i).toNat)
     case atStart=>exact ⟨0,rfl,Nat.zero_le _,by rw [List.take_zero,List.flatMap_nil,List.append_nil];exact H5.out⟩
     case round=>
      obtain ⟨j,rfl,hj,htg⟩:=hrel
      have HTG:=Lib.hid htg
      clear htg
      by_cases hjl : j < ls.length
      ·have hjl' : (j : Int) < (ls.length : Int):=by omega
       have hwj : IntKind.i64.wrap ((j : Int) + 1) = (j : Int) + 1:=by have:=HLE.out;rw [IntKind.wrap_i64];omega
       obtain ⟨g2,o2,k2,e2,hg2,hc2⟩:=HR1.out.at hjl
       injection e2 with e21 e22 e23
       subst e21 e23
       have hcr:=(HTG.out.blo.cell (p:=⟨g2,o2 + j,none⟩) hg2).trans hc2
       have HJL:=Lib.hid hjl
       have HSN:=Lib.hid (Xc.lines_snoc hjl)
       have HLT2:=Lib.hid (Nat.le_trans (Xc.lines_take ls j) HLS.out)
       have HYL:=Lib.hid (show (ls.getD j []).length ≤ 200000000 from Nat.le_trans (Xc.lsum_mem (by rw [List.getD,List.getElem?_eq_getElem hjl];exact List.getElem_mem hjl)) HLS.out)
       clear hc2
       generalize ls.getD j [] = y at *
       have CW:=Lib.hid (HTG.out.write y (by have h1:=HTL2.out;have h2:=HLT2.out;have h3:=HYL.out;rw [List.length_append];omega))
       have CB:=Lib.hid (fun W (GG : Nat) (h : TxG w w.heap.size GG #[.string ⟨f.toArray⟩,.int .i64 (n : Int),.slice (some ⟨g2,o2,none⟩) ls.length cc] ((l1 ++ (ls.take j).flatMap fun l=>l ++ [10]) ++ y) W)=>h.byte 10 (by have h1:=HTL2.out;have h2:=HLT2.out;have h3:=HYL.out;rw [List.length_append,List.length_append];omega))
       go_wp2_with (first | (go_at_call 124;refine CW.out.mono ?_;rintro e w1 ⟨rfl,h1⟩;have H1:=Lib.hid h1;clear h1) | (go_at_call 125;refine (CB.out _ _ H1.out).mono ?_;rintro e w2 ⟨rfl,h2⟩;have H2:=Lib.hid h2;clear h2))
       go_roundw
       case rel=>exact ⟨j + 1,by simp,HJL.out,by rw [HSN.out,← List.append_assoc,← List.append_assoc];exact H2.out⟩
       case measure=>have:=HJL.out;simp [intOf];omega
      ·obtain rfl : j = ls.length:=by omega
       have HTK:=Lib.hid (show ls.take ls.length = ls from List.take_of_length_le (Nat.le_refl _))
       go_wp2_with fail
       go_roundw
       case rel=>exact ⟨k + 1,by simp,HLT.out,by rw [HX.out];have:=HTG.out.out;rw [HTK.out] at this;subst hl1;subst hDD;simpa [Xc.textW,HNE.out,HP.out] using this⟩
       case measure=>have:=HLT.out;simp [intOf];omega
  ·have hle : (ws.length : Int) ≤ (k : Int):=by omega
   have HT:=Lib.hid (show ws.take k = ws from List.take_of_length_le (by omega))
   have CS:=Lib.hid (Tryz.Builder_String_any w.heap.size w.heap.size (Xc.text (ws.take k)) wr HTX.out.bdw HTX.out.2.size)
   go_wp2_with (go_at_call 126;refine CS.out.mono ?_;rintro e w1 ⟨rfl,hb1⟩)
   go_ret
   exact ⟨by rw [HT.out];rfl,HTX.out.2.trans hb1⟩
end Go.Proofs.YtpcpaoeajcjoiaaGreatDoor
