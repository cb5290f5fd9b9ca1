/- Texts joined, what is not reached left out. -/
import Derived.Test.YtpcpaoeajcjoiaaGreatDoorQAsPlain
import Derived.Test.YtpcpaoeajcjoiaaGreatDoorKX
import Derived.Test.YtpcpaoeajcjoiaaGreatDoorKO
import Derived.Test.YtpcpaoeajcjoiaaGreatDoorQF8Base
import Derived.Deep.RegionLaw
import Derived.StillTailTactics
set_option linter.unusedVariables false
set_option linter.unusedSimpArgs false
namespace Go.Proofs.YtpcpaoeajcjoiaaGreatDoor
open Go.RowKit Kit
theorem aprt:RowTy Tryz.prog 171 176 10 112:=
 ⟨Tryz.underlying171,by
  have h:(Tryz.prog.info? 176).map (fun i=>(i.zero,i.size,i.bytes)) = some (some (.agg #[.bool false,.int .i64 0,.int .i64 0,.int .i64 0,.int .i64 0,.int .i64 0,.slice none 0 0,.int .i64 0,.string ByteArray.empty,.string ByteArray.empty]),10,112):=by kernel_rfl
  obtain ⟨i,h1,h2,h3,h4⟩:=info_parts h
  exact ⟨i,_,h1,h2,h3,h4,by kernel_rfl⟩⟩
def As.cellsP (p:As.P) (vb:Value):List Value:=[.bool p.code,.int .i64 p.inst.op,.int .i64 p.inst.rd,.int .i64 p.inst.rs1,.int .i64 p.inst.rs2,.int .i64 p.inst.imm,vb,.int .i64 (p.kind:Int),.string ⟨p.name.toArray⟩,.string ⟨p.src.toArray⟩]
def As.Ps (R:Value→List UInt8→Prop):List As.P→List Value→Prop
 | [],cs=>cs = []
 | p :: t,cs=>∃ vb r,cs = As.cellsP p vb ++ r∧R vb p.bytes∧As.Ps R t r
theorem As.Ps.len {R:Value→List UInt8→Prop}:∀ {ps:List As.P} {cs:List Value},As.Ps R ps cs→cs.length = ps.length * 10
 | [],cs,e=>by have e:cs = []:=e;subst e;rfl
 | p :: t,cs,⟨vb,r,e,h1,h2⟩=>by subst e;have:=h2.len;simp only [List.length_append,As.cellsP,List.length_cons,List.length_nil,this];omega
theorem As.Ps.map {R R':Value→List UInt8→Prop} (h:∀ u l,R u l→R' u l):∀ {ps:List As.P} {cs:List Value},As.Ps R ps cs→As.Ps R' ps cs
 | [],_,e=>e
 | p :: t,_,⟨vb,r,e,h1,h2⟩=>⟨vb,r,e,h _ _ h1,As.Ps.map h h2⟩
theorem As.Ps.snoc {R:Value→List UInt8→Prop} {p:As.P} {vb:Value} (h1:R vb p.bytes):∀ {ps:List As.P} {cs:List Value},As.Ps R ps cs→As.Ps R (ps ++ [p]) (cs ++ As.cellsP p vb)
 | [],cs,e=>by have e:cs = []:=e;subst e;exact ⟨vb,[],by simp,h1,rfl⟩
 | _ :: _,_,⟨vb',r,e,g1,g2⟩=>by subst e;exact ⟨vb',_,by rw [List.append_assoc],g1,As.Ps.snoc h1 g2⟩
theorem As.Ps.at {R:Value→List UInt8→Prop}:∀ {ps:List As.P} {cs:List Value} {k:Nat} (h:As.Ps R ps cs) (hk:k < ps.length),∃ vb,R vb ps[k].bytes∧∀ i,i < 10→cs[k * 10+i]? = (As.cellsP ps[k] vb)[i]?
 | [],_,k,_,hk=>by simp at hk
 | p :: t,cs,0,⟨vb,r,e,h1,h2⟩,hk=>by
  subst e
  refine ⟨vb,h1,fun i hi=>?_⟩
  rw [List.getElem?_append_left (by simp [As.cellsP];omega)]
  simp
 | p :: t,cs,k+1,⟨vb,r,e,h1,h2⟩,hk=>by
  subst e
  obtain ⟨vb2,g1,g2⟩:=As.Ps.at (k:=k) h2 (by simpa using hk)
  refine ⟨vb2,g1,fun i hi=>?_⟩
  rw [List.getElem?_append_right (by simp [As.cellsP];omega)]
  rw [show (k+1) * 10+i - (As.cellsP p vb).length = k * 10+i by simp [As.cellsP];omega]
  exact g2 i hi
def As.Clear (F:Nat→Prop) (v:Value):Prop:=∀ g off n c,v = .slice (some ⟨g,off,none⟩) n c→0 < n→¬ F g
def As.Rb (F:Nat→Prop) (W:World) (v:Value) (b:List UInt8):Prop:=Rd W 1 v b.length (bv b)∧As.Clear F v
def As.Rs (F:Nat→Prop) (W:World) (v:Value) (l:List (List UInt8)):Prop:=RdS W v l∧As.Clear F v
theorem As.Rb.fr {F G:Nat→Prop} {W W':World} {v:Value} {b:List UInt8} (h:As.Rb F W v b) (hf:Fr F W W') (hG:∀ g,g < W.heap.size→G g→F g):As.Rb G W' v b:=by
 refine ⟨hf.rd h.1 (fun g off c e hn=>h.2 g off _ c e hn),fun g off n c e hn hg=>?_⟩
 obtain ⟨_,A,c',e',_,_,h4⟩:=h.1
 rw [e] at e'
 injection e' with e1 e2 e3
 obtain ⟨g',off',e4,hlt,_⟩:=h4 (by omega)
 rw [← e1] at e4
 injection e4 with e4
 injection e4 with e4 _
 subst e4
 exact h.2 g off n c e hn (hG g hlt hg)
theorem As.Rs.fr {F G:Nat→Prop} {W W':World} {v:Value} {l:List (List UInt8)} (h:As.Rs F W v l) (hf:Fr F W W') (hG:∀ g,g < W.heap.size→G g→F g):As.Rs G W' v l:=by
 refine ⟨hf.rd h.1 (fun g off c e hn=>h.2 g off _ c e hn),fun g off n c e hn hg=>?_⟩
 obtain ⟨_,A,c',e',_,_,h4⟩:=h.1
 rw [e] at e'
 injection e' with e1 e2 e3
 obtain ⟨g',off',e4,hlt,_⟩:=h4 (by omega)
 rw [← e1] at e4
 injection e4 with e4
 injection e4 with e4 _
 subst e4
 exact h.2 g off n c e hn (hG g hlt hg)
def As.Hi (gx:Nat) (v:Value):Prop:=∀ g off n c,v = .slice (some ⟨g,off,none⟩) n c→0 < n→gx < g
theorem As.Hi.nil (gx:Nat):As.Hi gx (.slice none 0 0):=fun g off n c e hn=>by cases e
structure As.Mk (F:Nat→Prop) (W:World) (gx:Nat) (x:As.L):Prop where
 obj:∃ vl vp cs,Bk W gx 250 #[vl,.bool x.ok,vp]∧As.Rs F W vl x.l∧W.ownsRow 0 176 10 vp x.p.length cs∧As.Ps (fun u b=>As.Rb F W u b∧As.Hi gx u) x.p cs∧∀ k,vp.ownBlock = some k→F k
 gx:F gx
 lt:∀ k,F k→k < W.heap.size
def As.To (F:Nat→Prop) (w:World) (gx:Nat) (x:As.L) (w':World):Prop:=∃ F',As.Mk F' w' gx x∧Step F w F' w'
theorem As.Mk.kept {F:Nat→Prop} {W W':World} {gx:Nat} {x:As.L} (h:As.Mk F W gx x) (hb:Below W.heap.size W W'):As.Mk F W' gx x:=by
 obtain ⟨vl,vp,cs,h1,h2,h3,h4,h5⟩:=h.obj
 have hf:Fr F W W':=Fr.of_below hb
 exact ⟨⟨vl,vp,cs,h1.kept hb,h2.fr hf (fun _ _ h=>h),own_kept h3 hb,h4.map fun u l hu=>⟨hu.1.fr hf (fun _ _ h=>h),hu.2⟩,h5⟩,h.gx,fun k hk=>Nat.lt_of_lt_of_le (h.lt k hk) hb.size⟩
theorem As.To.refl {F:Nat→Prop} {w:World} {gx:Nat} {x:As.L} (h:As.Mk F w gx x):As.To F w gx x w:=⟨F,h,Step.refl F w⟩
theorem As.To.after {F F1:Nat→Prop} {w w1 w2:World} {gx:Nat} {x:As.L} (h:As.To F1 w1 gx x w2) (a:Step F w F1 w1):As.To F w gx x w2:=by
 obtain ⟨F2,h1,h2⟩:=h
 exact ⟨F2,h1,a.trans h2⟩
theorem As.To.kept {F:Nat→Prop} {w w1 w2:World} {gx:Nat} {x:As.L} (h:As.To F w gx x w1) (hb:Below w1.heap.size w1 w2):As.To F w gx x w2:=by
 obtain ⟨F1,h1,h2⟩:=h
 exact ⟨F1,h1.kept hb,h2.trans (Step.of_below hb)⟩
def As.Go (F:Nat→Prop) (w:World) (gx:Nat) (x:As.L) (w':World):Prop:=As.Mk F w' gx x∧Fr (fun k=>k = gx) w w'
theorem As.Go.to {F:Nat→Prop} {w w':World} {gx:Nat} {x:As.L} (h:As.Go F w gx x w'):As.To F w gx x w':=⟨F,h.1,h.2.mono (fun k e=>e ▸ h.1.gx),fun k hk=>.inl hk⟩
theorem As.Go.kept {F:Nat→Prop} {w w1 w2:World} {gx:Nat} {x:As.L} (h:As.Go F w gx x w1) (hb:Below w1.heap.size w1 w2):As.Go F w gx x w2:=⟨h.1.kept hb,h.2.trans (Fr.of_below (F:=fun _=>False) hb) (fun _ e=>e.elim)⟩
theorem As.Go.after {F:Nat→Prop} {w w1 w2:World} {gx:Nat} {x:As.L} (h:As.Go F w1 gx x w2) (a:Fr (fun k=>k = gx) w w1):As.Go F w gx x w2:=⟨h.1,a.trans h.2 (fun _ e=>.inl e)⟩
theorem As.Mk.grow {F N:Nat→Prop} {W W':World} {gx:Nat} {x:As.L} (h:As.Mk F W gx x) (hb:Below W.heap.size W W') (hN:∀ k,N k→W.heap.size≤k∧k < W'.heap.size):As.Mk (fun k=>F k ∨ N k) W' gx x:=by
 obtain ⟨vl,vp,cs,h1,h2,h3,h4,h5⟩:=h.obj
 have hf:Fr F W W':=Fr.of_below hb
 have hG:∀ g,g < W.heap.size→(F g ∨ N g)→F g:=fun g hg e=>e.elim id (fun e=>absurd hg (by have:=(hN g e).1;omega))
 exact ⟨⟨vl,vp,cs,h1.kept hb,h2.fr hf hG,own_kept h3 hb,h4.map fun u l hu=>⟨hu.1.fr hf hG,hu.2⟩,fun k hk=>.inl (h5 k hk)⟩,.inl h.gx,fun k hk=>hk.elim (fun hk=>Nat.lt_of_lt_of_le (h.lt k hk) hb.size) (fun hk=>(hN k hk).2)⟩
theorem As.Mk.other {F:Nat→Prop} {W W':World} {gx g:Nat} {x:As.L} {t:TypeId} {cs:Array Value} (h:As.Mk F W gx x) (hg:F g) (hk:Bk W g t cs) (h1:t ≠ 250) (h2:t ≠ 176) (hb:But g W W'):As.Mk F W' gx x:=by
 obtain ⟨vl,vp,cs',k1,k2,k3,k4,k5⟩:=h.obj
 have hf:Fr F W W':=Fr.of_but hb hg
 exact ⟨⟨vl,vp,cs',hb.bk k1 (k1.ne hk (fun e=>h1 e.symm)),k2.fr hf (fun _ _ h=>h),own_but k3 hk h2 hb,k4.map fun u l hu=>⟨hu.1.fr hf (fun _ _ h=>h),hu.2⟩,k5⟩,h.gx,fun k hk'=>Nat.lt_of_lt_of_le (h.lt k hk') hb.size⟩
structure As.Seen (W:World) (gx:Nat) (x:As.L) (vl:Value):Prop where
 c0:W.cell? ⟨gx,0,none⟩ = some vl
 c1:W.cell? ⟨gx,1,none⟩ = some (.bool x.ok)
 f:∀ i,W.frozen? ⟨gx,i,none⟩ = false
 lt:gx < W.heap.size
 rd:RdS W vl x.l
theorem As.Mk.seen {F:Nat→Prop} {W:World} {gx:Nat} {x:As.L} (h:As.Mk F W gx x):∃ vl,As.Seen W gx x vl:=by
 obtain ⟨vl,vp,cs,h1,h2,_⟩:=h.obj
 exact ⟨vl,h1.cell 0,h1.cell 1,fun i=>h1.free i,h1.lt,h2.1⟩
theorem As.Mk.flag {F:Nat→Prop} {W:World} {gx:Nat} {x:As.L} (h:As.Mk F W gx x) (b:Bool):As.Go F W gx ⟨x.l,b,x.p⟩ (W.setCell ⟨gx,1,none⟩ (.bool b)):=by
 obtain ⟨vl,vp,cs,h1,h2,h3,h4,h5⟩:=h.obj
 have hs:=But.setCell W gx 1 (.bool b)
 have hf:Fr F W (W.setCell ⟨gx,1,none⟩ (.bool b)):=Fr.of_but hs h.gx
 refine ⟨⟨⟨vl,vp,cs,h1.set 1 _,h2.fr hf (fun _ _ h=>h),own_but h3 h1 (by decide) hs,h4.map fun u l hu=>⟨hu.1.fr hf (fun _ _ h=>h),hu.2⟩,h5⟩,h.gx,fun k hk=>?_⟩,Fr.of_but hs rfl⟩
 have:=h.lt k hk;simpa [World.setCell] using this
theorem As.Mk.left {F:Nat→Prop} {W:World} {gx:Nat} {x:As.L} (h:As.Mk F W gx x) {v:Value} {l:List (List UInt8)} (hv:As.Rs F W v l):As.Go F W gx ⟨l,x.ok,x.p⟩ (W.setCell ⟨gx,0,none⟩ v):=by
 obtain ⟨vl,vp,cs,h1,h2,h3,h4,h5⟩:=h.obj
 have hs:=But.setCell W gx 0 v
 have hf:Fr F W (W.setCell ⟨gx,0,none⟩ v):=Fr.of_but hs h.gx
 refine ⟨⟨⟨v,vp,cs,h1.set 0 _,hv.fr hf (fun _ _ h=>h),own_but h3 h1 (by decide) hs,h4.map fun u l hu=>⟨hu.1.fr hf (fun _ _ h=>h),hu.2⟩,h5⟩,h.gx,fun k hk=>?_⟩,Fr.of_but hs rfl⟩
 have:=h.lt k hk;simpa [World.setCell] using this
theorem As.Mk.next {F:Nat→Prop} {W:World} {gx:Nat} {x:As.L} {s:List UInt8} {t:List (List UInt8)} (h:As.Mk F W gx x) (hx:x.l = s :: t) :
  ∃ g off c A2,W.cell? ⟨gx,0,none⟩ = some (.slice (some ⟨g,off,none⟩) (t.length+1) c)∧t.length+1≤c∧c≤maxLen∧g < W.heap.size∧W.cell? ⟨g,off,none⟩ = some (.string ⟨s.toArray⟩) ∧
   (∀ (k1 k2 k3:IntKind) W',(Instr.slice 61 (.slice (some ⟨g,off,none⟩) (t.length+1) c) (some (.int k1 1)) (some (.int k2 ((t.length:Int)+1))) (some (.int k3 ((t.length:Int)+1)))).run Tryz.prog W' = .ok (.slice A2 t.length t.length) W') ∧
   As.Go F W gx (As.next x).2 (W.setCell ⟨gx,0,none⟩ (.slice A2 t.length t.length)):=by
 obtain ⟨vl,vp,cs,h1,h2,h3,h4,h5⟩:=h.obj
 have hr:=h2.1
 rw [hx] at hr
 obtain ⟨hl,A,c,rfl,k2,k3,k4⟩:=hr
 simp only [List.length_cons] at k2 k4 ⊢
 obtain ⟨g,off,rfl,hg,hc⟩:=k4 (by simp)
 have helem:Tryz.prog.elem 61 = 9:=by simp [Program.elem,Tryz.underlying61]
 have ht:Tryz.prog.underlying 61 = some (.slice (Tryz.prog.elem 61)):=by rw [helem];exact Tryz.underlying61
 obtain ⟨i,z,hi,hz,hs,hb,hzs⟩:=lsrt.info
 have hsz:∀ W',(sizeOf (Tryz.prog.elem 61)).run Tryz.prog W' = .ok 1 W':=fun W'=>by rw [helem];simp [sizeOf,typeInfo,hi,hs]
 have hv2:As.Rs F W (sliced (some ⟨g,off,none⟩) 1 (t.length+1) (t.length+1) 1) t:=by
  unfold sliced
  refine ⟨⟨by simp [L6.sv],?_⟩,?_⟩
  ·by_cases ht:t.length+1 = 1
   ·have h0:t = []:=List.eq_nil_of_length_eq_zero (by omega)
    subst h0
    exact ⟨some ⟨g,off,none⟩,0,rfl,Nat.le_refl _,Nat.zero_le _,fun hn=>absurd hn (by simp)⟩
   ·refine ⟨some ⟨g,off+1,none⟩,t.length,by rw [if_neg ht];simp [addr_add],Nat.le_refl _,by omega,fun hn=>⟨g,off+1,rfl,hg,fun j u hu=>?_⟩⟩
    have:=hc (j+1) u (by simpa [L6.sv] using hu)
    rw [show off+1+j = off+(j+1) by omega]
    exact this
  ·intro g' off' n' c' e hn
   have key:∀ (A:Option Addr) (n1 c1:Nat),Value.slice A n1 c1 = .slice (some ⟨g',off',none⟩) n' c'→A = some ⟨g',off',none⟩:=fun A n1 c1 e=>by injection e
   have ea:=key _ _ _ e
   have this:g' = g:=by
    by_cases ht:t.length+1 = 1
    ·rw [if_pos ht] at ea
     exact (congrArg Addr.block (Option.some.inj ea)).symm
    ·rw [if_neg ht] at ea
     simp only [Option.map_some,addr_add] at ea
     exact (congrArg Addr.block (Option.some.inj ea)).symm
   rw [this]
   exact h2.2 g off _ c rfl (by simp)
 have esl:sliced (some ⟨g,off,none⟩) 1 (t.length+1) (t.length+1) 1 = .slice (if t.length+1 = 1 then some ⟨g,off,none⟩ else (some (⟨g,off,none⟩:Addr)).map (·.add (1 * 1))) t.length t.length:=by unfold sliced;simp
 rw [esl] at hv2
 refine ⟨g,off,c,if t.length+1 = 1 then some ⟨g,off,none⟩ else (some (⟨g,off,none⟩:Addr)).map (·.add (1 * 1)),by simpa using h1.cell 0,k2,k3,hg,by simpa [L6.sv] using hc 0 _ rfl,fun k1 k2' k3' W'=>?_,?_⟩
 ·rw [run_slice_lhm (w:=W') 61 _ _ _ ht k1 k2' k3' 1 ((t.length:Int)+1) ((t.length:Int)+1) (by omega) (by omega) (by omega) (by omega),hsz]
  rw [← esl]
  simp
 ·have:=h.left hv2
  unfold As.next
  rw [hx]
  exact this
theorem As.Mk.put {F:Nat→Prop} {W:World} {gx:Nat} {x:As.L} (h:As.Mk F W gx x) (p:As.P) :
  ∃ vl vp cs,Bk W gx 250 #[vl,.bool x.ok,vp]∧W.ownsRow 0 176 10 vp x.p.length cs ∧
   ∀ Wa vb v' w1,Below W.heap.size W Wa→As.Rb F Wa vb p.bytes∧As.Hi gx vb→w1.ownsRow 0 176 10 v' (x.p.length+1) (cs ++ As.cellsP p vb)→Wa.grownBy w1 vp.ownBlock→(∀ k,v'.ownBlock = some k→vp.ownBlock = some k ∨ Wa.heap.size≤k) →
    w1.cell? ⟨gx,2,none⟩ = some vp∧w1.frozen? ⟨gx,2,none⟩ = false∧Hid (As.To F W gx (As.put p x) (w1.setCell ⟨gx,2,none⟩ v')):=by
 obtain ⟨vl,vp,cs,h1,h2,h3,h4,h5⟩:=h.obj
 refine ⟨vl,vp,cs,h1,h3,fun Wa vb v' w1 hb hbb ho hg hv=>?_⟩
 have h1a:=h1.kept hb
 have h3a:=own_kept h3 hb
 have hgx1:Bk w1 gx 250 _:=(hg.block gx h1a.lt (fun e=>own_bk_ne h3a h1a (by decide) e.symm)).trans h1a
 have hs:=But.setCell w1 gx 2 v'
 have f1:Fr F W Wa:=Fr.of_below hb
 have f2:Fr F Wa w1:=Fr.of_grown hg h5
 have f3:Fr F w1 (w1.setCell ⟨gx,2,none⟩ v'):=Fr.of_but hs h.gx
 have f23:Fr F Wa (w1.setCell ⟨gx,2,none⟩ v'):=f2.trans f3 (fun k hk=>.inl hk)
 have hG:∀ g,g < Wa.heap.size→(F g ∨ v'.ownBlock = some g)→F g:=fun g hl hg'=>hg'.elim id (fun e=>(hv g e).elim (h5 g) (fun e=>absurd hl (by omega)))
 refine ⟨hgx1.cell 2,hgx1.free 2,Lib.hid ⟨fun k=>F k ∨ v'.ownBlock = some k,⟨⟨vl,v',cs ++ As.cellsP p vb,hgx1.set 2 _,?_,?_,?_,fun k hk=>.inr hk⟩,.inl h.gx,fun k hk=>?_⟩,?_,fun k hk=>?_⟩⟩
 ·exact (h2.fr f1 (G:=F) (fun _ _ h=>h)).fr f23 hG
 ·show World.ownsRow _ 0 _ 10 _ (x.p ++ [p]).length _
  rw [List.length_append,List.length_cons,List.length_nil,Nat.zero_add]
  exact own_but ho hgx1 (by decide) hs
 ·exact As.Ps.snoc ⟨hbb.1.fr f23 hG,hbb.2⟩ (h4.map fun u l hu=>⟨(hu.1.fr f1 (G:=F) (fun _ _ h=>h)).fr f23 hG,hu.2⟩)
 ·have e:(w1.setCell ⟨gx,2,none⟩ v').heap.size = w1.heap.size:=by simp [World.setCell]
  rw [e]
  rcases hk with hk | hk
  ·exact Nat.lt_of_lt_of_le (h.lt k hk) (Nat.le_trans hb.size hg.size)
  ·exact own_lt' ho hk
 ·exact f1.trans f23 (fun k hk=>.inl hk)
 ·rcases hk with hk | hk
  ·exact .inl hk
  ·rcases hv k hk with e | e
   ·exact .inl (h5 k e)
   ·exact .inr (Nat.le_trans hb.size e)
def RdP (B:Nat) (W:World) (v:Value) (ps:List As.P):Prop:=∃ cs,Rd W 10 v ps.length cs∧(∀ g off n c,v = .slice (some ⟨g,off,none⟩) n c→0 < n→B≤g)∧As.Ps (fun u b=>Rd W 1 u b.length (bv b)∧∀ g off n c,u = .slice (some ⟨g,off,none⟩) n c→0 < n→B≤g) ps cs
theorem RdP.kept {B:Nat} {W W':World} {v:Value} {ps:List As.P} (h:RdP B W v ps) (hb:Below W.heap.size W W'):RdP B W' v ps:=by
 obtain ⟨cs,h1,h2,h3⟩:=h
 exact ⟨cs,h1.kept hb,h2,h3.map fun u b hu=>⟨hu.1.kept hb,hu.2⟩⟩
theorem RdP.fr {F:Nat→Prop} {B:Nat} {W W':World} {v:Value} {ps:List As.P} (h:RdP B W v ps) (hf:Fr F W W') (hF:∀ k,F k→B≤k→W.heap.size≤k):RdP B W' v ps:=by
 obtain ⟨cs,h1,h2,h3⟩:=h
 have key:∀ {size:Nat} {u:Value} {n:Nat} {xs:List Value},Rd W size u n xs→(∀ g off n c,u = .slice (some ⟨g,off,none⟩) n c→0 < n→B≤g)→Rd W' size u n xs:=fun hr hu=>by
  refine hf.rd hr fun g off c e hn hg=>?_
  have hB:=hu g off _ c e hn
  obtain ⟨_,A,c',e',_,_,h4⟩:=hr
  rw [e] at e'
  injection e' with e1 e2 e3
  obtain ⟨g',off',e4,hlt,_⟩:=h4 (by omega)
  rw [← e1] at e4
  injection e4 with e4
  injection e4 with e4 _
  subst e4
  have:=hF g hg hB
  omega
 exact ⟨cs,key h1 h2,h2,h3.map fun u b hu=>⟨key hu.1 hu.2,hu.2⟩⟩
theorem RdP.nil (B:Nat) (W:World):RdP B W (.slice none 0 0) []:=⟨[],Rd.nil _ _,fun g off n c e=>(by cases e),rfl⟩
theorem RdP.form {B:Nat} {W:World} {v:Value} {ps:List As.P} (h:RdP B W v ps):∃ A c,v = .slice A ps.length c:=by
 obtain ⟨cs,h1,_⟩:=h
 exact h1.form
theorem As.Mk.out {F:Nat→Prop} {W:World} {gx:Nat} {x:As.L} (h:As.Mk F W gx x) (hF:∀ k,F k→gx≤k):∃ vl vp,Bk W gx 250 #[vl,.bool x.ok,vp]∧RdS W vl x.l∧RdP gx W vp x.p:=by
 obtain ⟨vl,vp,cs,h1,h2,h3,h4,h5⟩:=h.obj
 refine ⟨vl,vp,h1,h2.1,cs,Rd.of_own h3,fun g off n c e hn=>?_,h4.map fun u b hu=>⟨hu.1.1,fun g off n c e hn=>Nat.le_of_lt (hu.2 g off n c e hn)⟩⟩
 subst e
 have h3':=h3.2
 rcases h3' with ⟨e,_⟩ | ⟨g',cap,cur,e,_⟩
 ·cases e
 ·injection e with e1 e2 e3
  injection e1 with e1
  injection e1 with e1 e4
  subst e1 e4
  exact hF _ (h5 _ rfl)
theorem As.cells_one {p:As.P} {vb:Value} (h:vb.oneCell' = true):∀ u ∈ As.cellsP p vb,u.oneCell' = true:=by
 intro u hu
 simp only [As.cellsP,List.mem_cons,List.not_mem_nil,or_false] at hu
 rcases hu with rfl | rfl | rfl | rfl | rfl | rfl | rfl | rfl | rfl | rfl <;> first | rfl | exact h
theorem As.Rb.form {F:Nat→Prop} {W:World} {v:Value} {b:List UInt8} (h:As.Rb F W v b):∃ A c,v = .slice A b.length c:=h.1.form
theorem As.Rb.nil (F:Nat→Prop) (W:World):As.Rb F W (.slice none 0 0) []:=⟨Rd.nil _ _,fun g off n c e hn=>by cases e⟩
theorem As.Mk.room {F:Nat→Prop} {W:World} {gx:Nat} {x:As.L} (h:As.Mk F W gx x) (p:As.P) {vb:Value} (hb:As.Rb F W vb p.bytes) (hh:As.Hi gx vb) :
  ∃ A c cs,W.cell? ⟨gx,2,none⟩ = some (.slice A x.p.length c)∧W.frozen? ⟨gx,2,none⟩ = false∧(∀ W',Below W.heap.size W W'→W'.cell? ⟨gx,2,none⟩ = some (.slice A x.p.length c)) ∧
   (W.drew.alloc (.cells (As.cellsP p vb).toArray 176)).ownsRow 0 176 10 (.slice A x.p.length c) x.p.length cs ∧
   Src Tryz.prog 10 171 (.slice (some ⟨W.heap.size,0,none⟩) 1 1) 1 (As.cellsP p vb) (W.drew.alloc (.cells (As.cellsP p vb).toArray 176)) ∧
   ∀ v' w',w'.ownsRow 0 176 10 v' (x.p.length+1) (cs ++ As.cellsP p vb)→(W.drew.alloc (.cells (As.cellsP p vb).toArray 176)).grownBy w' (Value.slice A x.p.length c).ownBlock→F8.Where (Value.slice A x.p.length c) v' (W.drew.alloc (.cells (As.cellsP p vb).toArray 176)).heap.size →
    (∃ A' c',v' = .slice A' (x.p.length+1) c')∧w'.cell? ⟨gx,2,none⟩ = some (.slice A x.p.length c)∧w'.frozen? ⟨gx,2,none⟩ = false∧Hid (As.To F W gx (As.put p x) (w'.setCell ⟨gx,2,none⟩ v')):=by
 obtain ⟨vl,vp,cs,h1,h3,hput⟩:=h.put p
 obtain ⟨A,c,rfl⟩:=(Rd.of_own h3).form
 obtain ⟨B,d,rfl⟩:=hb.form
 have hal:Below W.heap.size W (W.drew.alloc (.cells (As.cellsP p (.slice B p.bytes.length d)).toArray 176)):=(Below.refl _ _).drew.alloc (Nat.le_refl _) _
 refine ⟨A,c,cs,h1.cell 2,h1.free 2,fun W' hb'=>(h1.kept hb').cell 2,own_kept h3 hal,?_,fun v' w' ho hg hv=>?_⟩
 ·have hn:=Rd.built (size:=10) (Bk.fresh W.drew 176 (As.cellsP p (.slice B p.bytes.length d)).toArray) (by simp [As.cellsP])
  have:=Rd.src aprt (by simpa using hn) (As.cells_one rfl)
  simpa using this
 ·obtain ⟨d1,d2,d3⟩:=hput _ _ v' w' hal ⟨hb.fr (Fr.of_below hal) (fun _ _ h=>h),hh⟩ ho hg hv
  exact ⟨(Rd.of_own ho).form,d1,d2,d3⟩
set_option maxRecDepth 100000 in
set_option maxHeartbeats 2000000 in
theorem acode_any {F:Nat→Prop} {w:World} {gx:Nat} {x:As.L} (h:As.Mk F w gx x) (i:Is.Inst) (hl:x.p.length≤1000000000) :
  Calls Tryz.prog 214 #[.pointer (some ⟨gx,0,none⟩),i.v] w fun e w'=>e = .returned (.tuple #[])∧As.To F w gx (As.code i x) w':=by
 obtain ⟨op,rd,rs1,rs2,imm⟩:=i
 have hal:Below w.heap.size w (w.alloc (.cells #[.int .i64 op,.int .i64 rd,.int .i64 rs1,.int .i64 rs2,.int .i64 imm] 174)):=(Below.refl _ _).alloc (Nat.le_refl _) _
 have hbk:=Bk.fresh w 174 #[.int .i64 op,.int .i64 rd,.int .i64 rs1,.int .i64 rs2,.int .i64 imm]
 have hm:=h.kept hal
 obtain ⟨A,c,cs,k0,f0,hkk,ho1,hs1,hput⟩:=hm.room ⟨true,⟨op,rd,rs1,rs2,imm⟩,[],0,[],[]⟩ (As.Rb.nil F _) (As.Hi.nil _)
 have b0:=hbk.cell 0
 have b1:=hbk.cell 1
 have b2:=hbk.cell 2
 have b3:=hbk.cell 3
 have b4:=hbk.cell 4
 dsimp only [As.cellsP] at ho1 hs1 hput
 have HAL:=Lib.hid hal
 have HO1:=Lib.hid ho1
 have HS1:=Lib.hid hs1
 have HPUT:=Lib.hid hput
 have HL1:=Lib.hid (show (x.p.length+1) * 112≤140737488355328 by omega)
 have HL2:=Lib.hid (show x.p.length+1≤maxLen by unfold maxLen;omega)
 clear hal hbk hm h ho1 hs1 hput hl
 go_enter Tryz.func214,Tryz.ntmps214
 go_wp2_with fail
 obtain ⟨W3,hW3⟩:∃ W3,w.alloc (.cells #[.int .i64 op,.int .i64 rd,.int .i64 rs1,.int .i64 rs2,.int .i64 imm] 174) = W3:=⟨_,rfl⟩
 rw [hW3] at k0 f0 hkk b0 b1 b2 b3 b4 HO1 HS1 HPUT HAL ⊢
 have ka:=hkk _ ((Below.refl _ _).alloc (Nat.le_refl _) (.cells #[.bool true,.int .i64 op,.int .i64 rd,.int .i64 rs1,.int .i64 rs2,.int .i64 imm,.slice none 0 0,.int .i64 0,.string ⟨#[]⟩,.string ⟨#[]⟩] 176))
 clear hkk hW3
 go_region_law (refine step_appendRB (by rfl) _ _ _ _ (by rfl) aprt (by decide) 0 (.slice A x.p.length c) (by rfl) x.p.length cs HO1.out _ (by rfl) 1 [.bool true,.int .i64 op,.int .i64 rd,.int .i64 rs1,.int .i64 rs2,.int .i64 imm,.slice none 0 0,.int .i64 0,.string ⟨#[]⟩,.string ⟨#[]⟩] HS1.out HL1.out HL2.out (Nat.zero_le _) ?_;intro v3 w3 ho3 hb3 hg3 hv3;obtain ⟨⟨A3,c3,rfl⟩,k3,f3,HM⟩:=HPUT.out v3 w3 ho3 hg3 hv3)
 all_goals go_wp2_with fail
 all_goals go_end0
 all_goals exact ⟨rfl,HM.out.after (Step.of_below HAL.out)⟩
set_option maxRecDepth 100000 in
set_option maxHeartbeats 2000000 in
theorem aput_any {F:Nat→Prop} {w:World} {gx:Nat} {x:As.L} (h:As.Mk F w gx x) (p:As.P) (vb:Value) (hb:As.Rb F w vb p.bytes) (hh:As.Hi gx vb) (hl:x.p.length≤1000000000) :
  Calls Tryz.prog 218 #[.pointer (some ⟨gx,0,none⟩),.agg #[.bool p.code,.int .i64 p.inst.op,.int .i64 p.inst.rd,.int .i64 p.inst.rs1,.int .i64 p.inst.rs2,.int .i64 p.inst.imm,vb,.int .i64 (p.kind:Int),.string ⟨p.name.toArray⟩,.string ⟨p.src.toArray⟩]] w fun e w'=>e = .returned (.tuple #[])∧As.To F w gx (As.put p x) w':=by
 obtain ⟨pc,⟨op,rd,rs1,rs2,imm⟩,pb,pk,pn,ps⟩:=p
 obtain ⟨B,d,rfl⟩:=hb.form
 dsimp only at hb hh ⊢
 have hal:Below w.heap.size w (w.alloc (.cells #[.bool pc,.int .i64 op,.int .i64 rd,.int .i64 rs1,.int .i64 rs2,.int .i64 imm,.slice B pb.length d,.int .i64 (pk:Int),.string ⟨pn.toArray⟩,.string ⟨ps.toArray⟩] 176)):=(Below.refl _ _).alloc (Nat.le_refl _) _
 have hbk:=Bk.fresh w 176 #[.bool pc,.int .i64 op,.int .i64 rd,.int .i64 rs1,.int .i64 rs2,.int .i64 imm,.slice B pb.length d,.int .i64 (pk:Int),.string ⟨pn.toArray⟩,.string ⟨ps.toArray⟩]
 have hm:=h.kept hal
 obtain ⟨A,c,cs,k0,f0,hkk,ho1,hs1,hput⟩:=hm.room ⟨pc,⟨op,rd,rs1,rs2,imm⟩,pb,pk,pn,ps⟩ (hb.fr (Fr.of_below hal) (fun _ _ h=>h)) hh
 have b0:=hbk.cell 0
 have b1:=hbk.cell 1
 have b2:=hbk.cell 2
 have b3:=hbk.cell 3
 have b4:=hbk.cell 4
 have b5:=hbk.cell 5
 have b6:=hbk.cell 6
 have b7:=hbk.cell 7
 have b8:=hbk.cell 8
 have b9:=hbk.cell 9
 dsimp only [As.cellsP] at ho1 hs1 hput
 have HAL:=Lib.hid hal
 have HO1:=Lib.hid ho1
 have HS1:=Lib.hid hs1
 have HPUT:=Lib.hid hput
 have HL1:=Lib.hid (show (x.p.length+1) * 112≤140737488355328 by omega)
 have HL2:=Lib.hid (show x.p.length+1≤maxLen by unfold maxLen;omega)
 clear hal hbk hm h hb hh ho1 hs1 hput hl
 go_enter Tryz.func218,Tryz.ntmps218
 go_wp2_with fail
 obtain ⟨W3,hW3⟩:∃ W3,w.alloc (.cells #[.bool pc,.int .i64 op,.int .i64 rd,.int .i64 rs1,.int .i64 rs2,.int .i64 imm,.slice B pb.length d,.int .i64 (pk:Int),.string ⟨pn.toArray⟩,.string ⟨ps.toArray⟩] 176) = W3:=⟨_,rfl⟩
 rw [hW3] at k0 f0 hkk b0 b1 b2 b3 b4 b5 b6 b7 b8 b9 HO1 HS1 HPUT HAL ⊢
 have ka:=hkk _ ((Below.refl _ _).alloc (Nat.le_refl _) (.cells #[.bool pc,.int .i64 op,.int .i64 rd,.int .i64 rs1,.int .i64 rs2,.int .i64 imm,.slice B pb.length d,.int .i64 (pk:Int),.string ⟨pn.toArray⟩,.string ⟨ps.toArray⟩] 176))
 clear hkk hW3
 go_region_law (refine step_appendRB (by rfl) _ _ _ _ (by rfl) aprt (by decide) 0 (.slice A x.p.length c) (by rfl) x.p.length cs HO1.out _ (by rfl) 1 [.bool pc,.int .i64 op,.int .i64 rd,.int .i64 rs1,.int .i64 rs2,.int .i64 imm,.slice B pb.length d,.int .i64 (pk:Int),.string ⟨pn.toArray⟩,.string ⟨ps.toArray⟩] HS1.out HL1.out HL2.out (Nat.zero_le _) ?_;intro v3 w3 ho3 hb3 hg3 hv3;obtain ⟨⟨A3,c3,rfl⟩,k3,f3,HM⟩:=HPUT.out v3 w3 ho3 hg3 hv3)
 all_goals go_wp2_with fail
 all_goals go_end0
 all_goals exact ⟨rfl,HM.out.after (Step.of_below HAL.out)⟩
set_option maxRecDepth 100000 in
set_option maxHeartbeats 1000000 in
theorem anext_any {F:Nat→Prop} {w:World} {gx:Nat} {x:As.L} (h:As.Mk F w gx x) :
  Calls Tryz.prog 219 #[.pointer (some ⟨gx,0,none⟩)] w fun e w'=>e = .returned (.string ⟨(As.next x).1.toArray⟩)∧As.Go F w gx (As.next x).2 w':=by
 obtain ⟨vl,hs⟩:=h.seen
 have c0:=hs.c0
 have c1:=hs.c1
 have f0:=hs.f 0
 have f1:=hs.f 1
 cases hx:x.l with
 | nil=>
  have hr:=hs.rd
  rw [hx] at hr
  obtain ⟨A,c,rfl⟩:=hr.nil_form
  have HP:=Lib.hid (show As.Go F w gx (As.next x).2 (w.setCell ⟨gx,1,none⟩ (.bool false)) from by
   have:=h.flag false
   unfold As.next
   rw [hx] at this ⊢
   exact this)
  have HV:=Lib.hid (show (As.next x).1 = [] from by unfold As.next;rw [hx])
  clear h hs hx hr
  go_enter Tryz.func219,Tryz.ntmps219
  go_wp2_with fail
  go_ret
  exact ⟨by rw [HV.out];rfl,HP.out⟩
 | cons s t=>
  obtain ⟨g,off,c,A2,k0,hc1,hc2,hg,hc,hsl,hto⟩:=h.next hx
  have HP:=Lib.hid hto
  have HV:=Lib.hid (show (As.next x).1 = s from by unfold As.next;rw [hx])
  have HSL:=Lib.hid hsl
  have hpos:(0:Int) < (t.length:Int)+1:=by omega
  have hne:((t.length:Int)+1 == 0) = false:=by simp;omega
  rw [k0] at c0
  clear h hs hx hto hsl c0
  go_enter Tryz.func219,Tryz.ntmps219
  go_wp2_with fail
  refine wp_region_still_tail 18 (by kernel_rfl) (by kernel_rfl) ?_
  have hd:∀ W:World,{W with drawn:=W.drawn+1} = W.drew:=fun _=>rfl
  rw [hd]
  clear hd
  have hsl:=HSL.out
  simp only [List.take_succ_cons,List.take_zero,List.drop_succ_cons,List.drop_zero]
  repeat ((with_reducible refine wpStill_step (fun K hK=>?_));go_simp;(try go_bits);(with_reducible refine hK _ ?_);clear hK K)
  refine wpStill_nil ?_
  go_wp2_with fail
  go_ret
  exact ⟨by rw [HV.out];rfl,HP.out.kept ((Below.refl _ _).drew)⟩
def As.Tb (F:Nat→Prop) (w:World):Prop:=L6.Tab w∧¬ F 1
theorem As.tab_fr {F:Nat→Prop} {w w':World} (h:L6.Tab w) (hf:Fr F w w') (hn:¬ F 1):L6.Tab w':=by
 have hlt:=F8.tab_lt h
 unfold L6.Tab Lib.TabIs at *
 unfold World.var? at *
 rw [L6.tab_named] at *
 simp only [Option.bind_some] at *
 rw [hf.block _ hlt hn]
 exact h
theorem As.Tb.step {F F':Nat→Prop} {w w':World} (h:As.Tb F w) (hs:Step F w F' w'):As.Tb F' w':=
 ⟨As.tab_fr h.1 hs.fr h.2,fun e=>(hs.new _ e).elim h.2 (fun e=>absurd (F8.tab_lt h.1) (by omega))⟩
theorem As.Tb.go {F:Nat→Prop} {w w':World} {gx:Nat} (h:As.Tb F w) (hg:F gx) (hf:Fr (fun k=>k = gx) w w'):As.Tb F w':=⟨As.tab_fr h.1 hf (fun e=>h.2 (e ▸ hg)),h.2⟩
theorem As.Tb.kept {F:Nat→Prop} {w w':World} (h:As.Tb F w) (hb:Below w.heap.size w w'):As.Tb F w':=h.step (Step.of_below hb)
theorem asret_bool {a b:Bool} (h:a = b):Ending.returned (.bool a) = .returned (.bool b):=by rw [h]
def As.Short (l:List (List UInt8)):Prop:=∀ s ∈ l,s.length≤maxLen
theorem As.Short.next {x:As.L} (h:As.Short x.l):(As.next x).1.length≤maxLen∧As.Short (As.next x).2.l:=by
 unfold As.next
 split
 ·exact ⟨Nat.zero_le _,fun s hs=>by cases hs⟩
 ·rename_i s t e
  rw [e] at h
  exact ⟨h s (by simp),fun y hy=>h y (by simp [hy])⟩
theorem As.Short.reg {x:As.L} (h:As.Short x.l):As.Short (As.reg x).2.l:=h.next.2
theorem As.Short.num {x:As.L} (h:As.Short x.l):As.Short (As.num x).2.l:=h.next.2
theorem As.Short.name {x:As.L} (h:As.Short x.l):As.Short (As.name x).2.l:=h.next.2
theorem As.Short.either {x:As.L} (h:As.Short x.l):As.Short (As.either x).2.l:=by
 unfold As.either
 split
 ·exact h.name
 ·rename_i s t e
  split
  ·rw [e] at h;exact fun y hy=>h y (by simp [hy])
  ·exact h.name
set_option maxRecDepth 20000 in
set_option maxHeartbeats 1000000 in
theorem asymbol_any (s:List UInt8) (w:World) (hl:s.length≤maxLen) (hT:L6.Tab w) :
  Calls Tryz.prog 256 #[.string ⟨s.toArray⟩] w fun e w'=>e = .returned (.bool (As.symbol s))∧Below w.heap.size w w':=by
 have CN:=Lib.hid (fun W=>lnumber_any s W hl)
 have CR:=Lib.hid (lreg_any s w hl (.inr hT))
 have HV:=Lib.hid (show As.symbol s = (!(L6.number s).2 && (!(L6.regV s).2 && (!s.isEmpty && s.headD 0 != 34))) from rfl)
 clear hT hl
 generalize L6.number s = n at *
 generalize L6.regV s = r at *
 obtain ⟨n1,n2⟩:=n
 obtain ⟨r1,r2⟩:=r
 dsimp only at CN CR HV
 cases n2 <;> cases r2
 ·by_cases he:s = []
  ·subst he
   go_enter Tryz.func256,Tryz.ntmps256
   go_wp2_with (first | (go_at_call 167;refine (CN.out _).mono ?_;rintro e w' ⟨rfl,rfl⟩) | (go_at_call 255;refine CR.out.mono ?_;rintro e w1 ⟨rfl,hb1⟩))
   go_ret
   exact ⟨asret_bool (by rw [HV.out];rfl),hb1⟩
  ·have h0:0 < s.length:=List.length_pos_iff.2 he
   have hne:(s != ([]:List UInt8)) = true:=by simpa using he
   have hne2:(!s == ([]:List UInt8)) = true:=by simpa using he
   have hpos:(0:Int) < s.length:=by omega
   have HC:=Lib.hid (show (s.headD 0 != 34) = (((((⟨s.toArray⟩:ByteArray)[0]'h0).toNat:Int)) != 34) by
    rw [L6.get_data s 0 h0,Bool.eq_iff_iff,bne_iff_ne,bne_iff_ne]
    cases s with
    | nil=>simp at h0
    | cons a b=>
     simp only [List.headD_cons,List.getD_cons_zero]
     refine not_congr ⟨fun h=>by rw [h];rfl,fun h=>UInt8.toNat_inj.1 ?_⟩
     have:a.toNat = 34:=by omega
     exact this)
   have he2:s.isEmpty = false:=by cases s with | nil=>exact absurd rfl he | cons a b=>rfl
   have HE:=Lib.hid he2
   clear he
   go_enter Tryz.func256,Tryz.ntmps256
   go_wp2_with (first | (go_at_call 167;refine (CN.out _).mono ?_;rintro e w' ⟨rfl,rfl⟩) | (go_at_call 255;refine CR.out.mono ?_;rintro e w1 ⟨rfl,hb1⟩))
   go_ret
   exact ⟨asret_bool (by rw [HV.out,HC.out,HE.out];rfl),hb1⟩
 ·go_enter Tryz.func256,Tryz.ntmps256
  go_wp2_with (first | (go_at_call 167;refine (CN.out _).mono ?_;rintro e w' ⟨rfl,rfl⟩) | (go_at_call 255;refine CR.out.mono ?_;rintro e w1 ⟨rfl,hb1⟩))
  go_ret
  exact ⟨asret_bool (by rw [HV.out];rfl),hb1⟩
 ·go_enter Tryz.func256,Tryz.ntmps256
  go_wp2_with (first | (go_at_call 167;refine (CN.out _).mono ?_;rintro e w' ⟨rfl,rfl⟩) | (go_at_call 255;refine CR.out.mono ?_;rintro e w1 ⟨rfl,hb1⟩))
  go_ret
  exact ⟨asret_bool (by rw [HV.out];rfl),hb1⟩
 ·go_enter Tryz.func256,Tryz.ntmps256
  go_wp2_with (first | (go_at_call 167;refine (CN.out _).mono ?_;rintro e w' ⟨rfl,rfl⟩) | (go_at_call 255;refine CR.out.mono ?_;rintro e w1 ⟨rfl,hb1⟩))
  go_ret
  exact ⟨asret_bool (by rw [HV.out];rfl),hb1⟩
set_option maxRecDepth 20000 in
set_option maxHeartbeats 1000000 in
theorem areg_any {F:Nat→Prop} {w:World} {gx:Nat} {x:As.L} (h:As.Mk F w gx x) (hT:As.Tb F w) (hsh:As.Short x.l) :
  Calls Tryz.prog 211 #[.pointer (some ⟨gx,0,none⟩)] w fun e w'=>e = .returned (.int .i64 ((As.reg x).1:Nat))∧As.Go F w gx (As.reg x).2 w':=by
 have CN:=Lib.hid (anext_any h)
 have CR:=Lib.hid (fun W (hT:L6.Tab W)=>lreg_any (As.next x).1 W hsh.next.1 (.inr hT))
 have HT:=Lib.hid hT
 have HV:=Lib.hid (show As.reg x = ((L6.regV (As.next x).1).1,As.sat (L6.regV (As.next x).1).2 (As.next x).2) from rfl)
 clear h hT hsh
 generalize As.reg x = R at *
 generalize As.next x = nx at *
 obtain ⟨s,l1,ok1,p1⟩:=nx
 dsimp only at CN CR HV
 generalize L6.regV s = r at *
 obtain ⟨r1,r2⟩:=r
 dsimp only at CR HV
 cases ok1
 all_goals
  go_enter Tryz.func211,Tryz.ntmps211
  go_wp2_with (go_at_call 219;refine CN.out.mono ?_;rintro e w1 ⟨rfl,hm1,st1⟩;have HM1:=Lib.hid hm1;have ST1:=Lib.hid st1;clear hm1 st1)
  go_wp2_with (go_at_call 255;refine (CR.out _ (HT.out.go HM1.out.gx ST1.out).1).mono ?_;rintro e w2 ⟨rfl,hb2⟩;have HM2:=Lib.hid (HM1.out.kept hb2);have ST2:=Lib.hid (ST1.out.trans (Fr.of_below (F:=fun k=>k = gx) hb2) (fun _ e=>.inl e));obtain ⟨vl,hs2⟩:=HM2.out.seen;have c1:=hs2.c1;have f1:=hs2.f 1;clear hb2 hs2)
  go_ret
  refine ⟨by rw [HV.out];rfl,?_⟩
  rw [HV.out]
  have hfl:=HM2.out.flag
  exact (hfl _).after ST2.out
set_option maxRecDepth 20000 in
set_option maxHeartbeats 1000000 in
theorem anum_any {F:Nat→Prop} {w:World} {gx:Nat} {x:As.L} (h:As.Mk F w gx x) (hT:As.Tb F w) (hsh:As.Short x.l) :
  Calls Tryz.prog 212 #[.pointer (some ⟨gx,0,none⟩)] w fun e w'=>e = .returned (.int .i64 (As.num x).1)∧As.Go F w gx (As.num x).2 w':=by
 have CN:=Lib.hid (anext_any h)
 have CR:=Lib.hid (fun W (hT:L6.Tab W)=>(lnumber_any (As.next x).1 W hsh.next.1).mono (R':=fun e w'=>e = .returned (.tuple #[.int .i64 (L6.number (As.next x).1).1,.bool (L6.number (As.next x).1).2])∧Below W.heap.size W w') (fun e w' h=>⟨h.1,h.2 ▸ Below.refl _ _⟩))
 have HT:=Lib.hid hT
 have HV:=Lib.hid (show As.num x = ((L6.number (As.next x).1).1,As.sat (L6.number (As.next x).1).2 (As.next x).2) from rfl)
 clear h hT hsh
 generalize As.num x = R at *
 generalize As.next x = nx at *
 obtain ⟨s,l1,ok1,p1⟩:=nx
 dsimp only at CN CR HV
 generalize L6.number s = r at *
 obtain ⟨r1,r2⟩:=r
 dsimp only at CR HV
 cases ok1
 all_goals
  go_enter Tryz.func212,Tryz.ntmps212
  go_wp2_with (go_at_call 219;refine CN.out.mono ?_;rintro e w1 ⟨rfl,hm1,st1⟩;have HM1:=Lib.hid hm1;have ST1:=Lib.hid st1;clear hm1 st1)
  go_wp2_with (go_at_call 167;refine (CR.out _ (HT.out.go HM1.out.gx ST1.out).1).mono ?_;rintro e w2 ⟨rfl,hb2⟩;have HM2:=Lib.hid (HM1.out.kept hb2);have ST2:=Lib.hid (ST1.out.trans (Fr.of_below (F:=fun k=>k = gx) hb2) (fun _ e=>.inl e));obtain ⟨vl,hs2⟩:=HM2.out.seen;have c1:=hs2.c1;have f1:=hs2.f 1;clear hb2 hs2)
  go_ret
  refine ⟨by rw [HV.out];rfl,?_⟩
  rw [HV.out]
  have hfl:=HM2.out.flag
  exact (hfl _).after ST2.out
set_option maxRecDepth 20000 in
set_option maxHeartbeats 1000000 in
theorem aname_any {F:Nat→Prop} {w:World} {gx:Nat} {x:As.L} (h:As.Mk F w gx x) (hT:As.Tb F w) (hsh:As.Short x.l) :
  Calls Tryz.prog 216 #[.pointer (some ⟨gx,0,none⟩)] w fun e w'=>e = .returned (.string ⟨(As.name x).1.toArray⟩)∧As.Go F w gx (As.name x).2 w':=by
 have CN:=Lib.hid (anext_any h)
 have CR:=Lib.hid (fun W (hT:L6.Tab W)=>asymbol_any (As.next x).1 W hsh.next.1 hT)
 have HT:=Lib.hid hT
 have HV:=Lib.hid (show As.name x = ((As.next x).1,As.sat (As.symbol (As.next x).1) (As.next x).2) from rfl)
 clear h hT hsh
 generalize As.name x = R at *
 generalize As.next x = nx at *
 obtain ⟨s,l1,ok1,p1⟩:=nx
 dsimp only at CN CR HV
 generalize As.symbol s = r at *
 cases ok1
 ·go_enter Tryz.func216,Tryz.ntmps216
  go_wp2_with (go_at_call 219;refine CN.out.mono ?_;rintro e w1 ⟨rfl,hm1,st1⟩;have HM1:=Lib.hid hm1;have ST1:=Lib.hid st1;obtain ⟨vl,hs2⟩:=hm1.seen;have c1:=hs2.c1;have f1:=hs2.f 1;clear hm1 st1 hs2)
  go_ret
  refine ⟨by rw [HV.out];rfl,?_⟩
  rw [HV.out]
  have hfl:=HM1.out.flag
  exact (hfl _).after ST1.out
 ·go_enter Tryz.func216,Tryz.ntmps216
  go_wp2_with (go_at_call 219;refine CN.out.mono ?_;rintro e w1 ⟨rfl,hm1,st1⟩;have HM1:=Lib.hid hm1;have ST1:=Lib.hid st1;obtain ⟨vl,hs2⟩:=hm1.seen;have c1:=hs2.c1;have f1:=hs2.f 1;clear hm1 st1 hs2)
  go_wp2_with (go_at_call 256;refine (CR.out _ (HT.out.go HM1.out.gx ST1.out).1).mono ?_;rintro e w2 ⟨rfl,hb2⟩;have HM2:=Lib.hid (HM1.out.kept hb2);have ST2:=Lib.hid (ST1.out.trans (Fr.of_below (F:=fun k=>k = gx) hb2) (fun _ e=>.inl e));obtain ⟨vl,hs2⟩:=HM2.out.seen;have c1:=hs2.c1;have f1:=hs2.f 1;clear hb2 hs2)
  go_ret
  refine ⟨by rw [HV.out];rfl,?_⟩
  rw [HV.out]
  have hfl:=HM2.out.flag
  exact (hfl _).after ST2.out
set_option maxRecDepth 20000 in
set_option maxHeartbeats 1000000 in
theorem aeither_any {F:Nat→Prop} {w:World} {gx:Nat} {x:As.L} (h:As.Mk F w gx x) (hT:As.Tb F w) (hsh:As.Short x.l) :
  Calls Tryz.prog 217 #[.pointer (some ⟨gx,0,none⟩)] w fun e w'=>e = .returned (.tuple #[.int .i64 (As.either x).1.1,.string ⟨(As.either x).1.2.toArray⟩])∧As.Go F w gx (As.either x).2 w':=by
 have CM:=Lib.hid (aname_any h hT hsh)
 have CX:=Lib.hid (anext_any h)
 obtain ⟨vl,hs⟩:=h.seen
 have c0:=hs.c0
 have hrd:=hs.rd
 cases hx:x.l with
 | nil=>
  rw [hx] at hrd
  obtain ⟨A,c,rfl⟩:=hrd.nil_form
  have HV:=Lib.hid (show As.either x = ((0,(As.name x).1),(As.name x).2) from by unfold As.either;rw [hx])
  clear h hT hsh hs hrd hx CX
  go_enter Tryz.func217,Tryz.ntmps217
  go_wp2_with (go_at_call 216;refine CM.out.mono ?_;rintro e w1 ⟨rfl,h1⟩)
  go_ret2
  rw [HV.out]
  exact ⟨rfl,h1⟩
 | cons s t=>
  rw [hx] at hrd hsh
  obtain ⟨g,off,c,rfl,hc1,hc2,hg,hc,_⟩:=hrd.cons
  have CR:=Lib.hid (fun W=>lnumber_any s W (hsh s (by simp)))
  have hpos:(0:Int) < (t.length:Int)+1:=by omega
  by_cases hn:(L6.number s).2 = true
  ·have HV:=Lib.hid (show As.either x = (((L6.number s).1,[]),(As.next x).2) from by unfold As.either As.next;rw [hx];dsimp only;rw [if_pos hn])
   have CR:=Lib.hid (fun W=>(CR.out W).mono (R':=fun e w'=>e = .returned (.tuple #[.int .i64 (L6.number s).1,.bool true])∧W = w') (fun e w' h=>⟨by rw [h.1,hn],h.2⟩))
   clear h hT hsh hs hrd hx CM hn
   go_enter Tryz.func217,Tryz.ntmps217
   go_wp2_with (first | (go_at_call 167;refine (CR.out _).mono ?_;rintro e w' ⟨rfl,rfl⟩) | (go_at_call 219;refine CX.out.mono ?_;rintro e w1 ⟨rfl,h1⟩))
   go_ret2
   rw [HV.out]
   exact ⟨rfl,h1⟩
  ·have hn:(L6.number s).2 = false:=by simpa using hn
   have HV:=Lib.hid (show As.either x = ((0,(As.name x).1),(As.name x).2) from by unfold As.either;rw [hx];dsimp only;rw [if_neg (by rw [hn];decide)])
   have CR:=Lib.hid (fun W=>(CR.out W).mono (R':=fun e w'=>e = .returned (.tuple #[.int .i64 (L6.number s).1,.bool false])∧W = w') (fun e w' h=>⟨by rw [h.1,hn],h.2⟩))
   clear h hT hsh hs hrd hx CX hn
   go_enter Tryz.func217,Tryz.ntmps217
   go_wp2_with (first | (go_at_call 167;refine (CR.out _).mono ?_;rintro e w' ⟨rfl,rfl⟩) | (go_at_call 216;refine CM.out.mono ?_;rintro e w1 ⟨rfl,h1⟩))
   go_ret2
   rw [HV.out]
   exact ⟨rfl,h1⟩
end Go.Proofs.YtpcpaoeajcjoiaaGreatDoor
