/- Texts joined, what is not reached left out. -/
import Derived.WalkKit
import Derived.WalkLawsBesides
import Derived.WalkSpells
import Derived.Lib.Hide
import Derived.Lib.Strings
import Derived.Lib.ConvBytes
import Derived.Lib.AppendStr
import Derived.Deep.AppendSrc
import Derived.Lib.AppendZeros
import Derived.Lib.AppendZerosOnto
import Derived.Laws.CopyOwn
import Derived.Laws.IdiomCopy
import Derived.ProofKit
import Derived.OpenShut
import Derived.ChangeSlices
import Derived.Deep.Slices
import Derived.Deep.Fields
set_option linter.unusedVariables false
set_option linter.unusedSimpArgs false
namespace Go.Proofs.YtpcpaoeajcjoiaaGreatDoor.Kit
open Go.RowKit
def bv (l:List UInt8):List Value:=l.map fun c=>Value.int .u8 c.toNat
theorem bv_length (l:List UInt8):(bv l).length = l.length:=by simp [bv]
theorem bv_append (a b:List UInt8):bv (a ++ b) = bv a ++ bv b:=by simp [bv]
theorem bv_one (l:List UInt8):∀ u ∈ bv l,u.oneCell' = true:=by
 intro u hu;simp only [bv,List.mem_map] at hu;obtain ⟨_,_,rfl⟩:=hu;rfl
structure ByteTy (P:Program) (t e:TypeId):Prop where
 slice:P.underlying t = some (.slice e)
 elem:P.underlying e = some (.int .u8)
 info:∃ i,P.info? e = some i∧i.zero = some (.int .u8 0)∧i.size = 1∧i.bytes = 1
def OwnB (e:TypeId) (base:Nat) (w:World) (v:Value) (l:List UInt8):Prop:=w.ownsRow base e 1 v l.length (bv l)
theorem OwnB.nil (e:TypeId) (base:Nat) (w:World):OwnB e base w (.slice none 0 0) []:=World.ownsRow_nil w base e 1
theorem OwnB.shape {e:TypeId} {base:Nat} {w:World} {v:Value} {l:List UInt8} (h:OwnB e base w v l) :
  (v = .slice none 0 0∧l = []) ∨ ∃ g cap,v = .slice (some ⟨g,0,none⟩) l.length cap∧base≤g∧g < w.heap.size∧l.length≤cap∧cap≤maxLen ∧
   (∀ j,j < l.length→w.cell? ⟨g,j,none⟩ = some (.int .u8 (l.getD j 0).toNat))∧∀ j,j < cap→w.frozen? ⟨g,j,none⟩ = false∧(w.cell? ⟨g,j,none⟩).isSome = true:=by
 obtain ⟨h1,h2⟩:=h
 rcases h2 with ⟨rfl,hn⟩ | ⟨g,cap,cur,rfl,hb,hh,hnc,hcm,hcs,htake⟩
 ·exact .inl ⟨rfl,List.eq_nil_of_length_eq_zero hn⟩
 ·refine .inr ⟨g,cap,rfl,hb,(Array.getElem?_eq_some_iff.1 hh).1,hnc,hcm,fun j hj=>?_,fun j hj=>?_⟩
  ·simp only [Nat.mul_one] at htake
   have h3:(bv l)[j]? = some (.int .u8 (l.getD j 0).toNat):=by
    simp [bv,List.getD,List.getElem?_eq_getElem hj]
   rw [← htake,List.getElem?_take,if_pos hj] at h3
   simp only [World.cell?,hh]
   simpa using h3
  ·simp only [Nat.mul_one] at hcs
   refine ⟨by simp [World.frozen?,hh],?_⟩
   simp only [World.cell?,hh]
   simp [hcs,hj]
theorem OwnB.len {e:TypeId} {base:Nat} {w:World} {v:Value} {l:List UInt8} (h:OwnB e base w v l) {n:Nat} (hn:l.length = n):∃ a cap,v = .slice a n cap:=by
 rcases h.shape with ⟨rfl,rfl⟩ | ⟨g,cap,rfl,_⟩
 ·exact ⟨none,0,by rw [← hn];rfl⟩
 ·exact ⟨_,cap,by rw [hn]⟩
theorem OwnB.alloc {e:TypeId} {base:Nat} {w:World} {v:Value} {l:List UInt8} (h:OwnB e base w v l) (o:Obj):OwnB e base (w.alloc o) v l:=World.ownsRow.alloc h o
theorem OwnB.below {e:TypeId} {base B:Nat} {w w':World} {v:Value} {l:List UInt8} (h:OwnB e base w v l) (hb:Below B w w') (hB:∀ g,v.ownBlock = some g→g < B):OwnB e base w' v l:=by
 obtain ⟨h1,h2⟩:=h
 refine ⟨h1,?_⟩
 rcases h2 with h2 | ⟨g,cap,cur,rfl,hb',hh,rest⟩
 ·exact .inl h2
 ·exact .inr ⟨g,cap,cur,rfl,hb',by rw [hb.block g (hB g rfl)];exact hh,rest⟩
theorem OwnB.kept {e:TypeId} {base:Nat} {w w':World} {v:Value} {l:List UInt8} (h:OwnB e base w v l) (hb:Below w.heap.size w w'):OwnB e base w' v l:=
 h.below hb fun g hg=>(h.lt g hg).2
theorem OwnB.rebase {e:TypeId} {base base':Nat} {w:World} {v:Value} {l:List UInt8} (h:OwnB e base w v l) (hb:base'≤base):OwnB e base' w v l:=by
 obtain ⟨h1,h2⟩:=h
 refine ⟨h1,?_⟩
 rcases h2 with h2 | ⟨g,cap,cur,rfl,hb',rest⟩
 ·exact .inl h2
 ·exact .inr ⟨g,cap,cur,rfl,Nat.le_trans hb hb',rest⟩
theorem OwnB.built (w:World) (e:TypeId) (arr:Array Value) (l:List UInt8) (h:arr.toList = bv l) (hm:l.length≤maxLen) {base:Nat} (hb:base≤w.heap.size) :
  OwnB e base (w.alloc (.cells arr e)) (.slice (some ⟨w.heap.size,0,none⟩) l.length l.length) l:=by
 have hs:arr.size = l.length:=by rw [← Array.length_toList,h,bv_length]
 exact ⟨by simp [bv_length],.inr ⟨w.heap.size,l.length,arr,rfl,hb,heap_alloc_new w _,Nat.le_refl _,hm,by omega,by rw [h,Nat.mul_one,← bv_length,List.take_length]⟩⟩
def RdB (w:World) (v:Value) (l:List UInt8):Prop:=
 (∃ a c,v = .slice a 0 c∧l = []) ∨ ∃ g off cap,v = .slice (some ⟨g,off,none⟩) l.length cap∧g < w.heap.size∧l.length≤cap∧cap≤maxLen∧∀ j,j < l.length→w.cell? ⟨g,off+j,none⟩ = some (.int .u8 (l.getD j 0).toNat)
theorem OwnB.rd {e:TypeId} {base:Nat} {w:World} {v:Value} {l:List UInt8} (h:OwnB e base w v l):RdB w v l:=by
 rcases h.shape with ⟨rfl,rfl⟩ | ⟨g,cap,rfl,_,hg,hlc,hcm,hc,_⟩
 ·exact .inl ⟨none,0,rfl,rfl⟩
 ·exact .inr ⟨g,0,cap,rfl,hg,hlc,hcm,by simpa using hc⟩
theorem RdB.below {w w':World} {v:Value} {l:List UInt8} (h:RdB w v l) (hb:Below w.heap.size w w'):RdB w' v l:=by
 rcases h with h | ⟨g,off,cap,rfl,hg,hlc,hcm,hc⟩
 ·exact .inl h
 ·exact .inr ⟨g,off,cap,rfl,Nat.lt_of_lt_of_le hg hb.size,hlc,hcm,fun j hj=>by rw [hb.cell (p:=⟨g,off+j,none⟩) hg];exact hc j hj⟩
theorem addr_add (g off j:Nat):(⟨g,off,none⟩:Addr).add j = ⟨g,off+j,none⟩:=by unfold Addr.add;split <;> simp_all
theorem cells_of_rd {w:World} {g off:Nat} {l:List UInt8} (hc:∀ j,j < l.length→w.cell? ⟨g,off+j,none⟩ = some (.int .u8 (l.getD j 0).toNat)) :
  ∀ j u,(bv l)[j]? = some u→w.cell? ((⟨g,off,none⟩:Addr).add j) = some u:=by
 intro j u hu
 have hj:j < l.length:=by simpa [bv_length] using (List.getElem?_eq_some_iff.1 hu).1
 rw [addr_add,hc j hj,← hu]
 simp [bv,List.getD,List.getElem?_eq_getElem hj]
theorem src_of_rd {P:Program} {t e:TypeId} (ty:ByteTy P t e) {w:World} {v:Value} {l:List UInt8} (h:RdB w v l):Src P 1 t v l.length (bv l) w:=by
 rcases h with ⟨a,c,rfl,rfl⟩ | ⟨g,off,cap,rfl,hg,_,_,hc⟩
 ·cases a with
  | none=>exact Src.ofNil w ty.slice c
  | some a=>exact Src.ofSlice w ty.slice a 0 c _ (by simp [bv]) (fun j u hu=>by simp [bv] at hu) (by simp [bv])
 ·exact Src.ofSlice w ty.slice _ _ _ _ (by simp [bv_length]) (cells_of_rd hc) (bv_one l)
theorem run_appendB {P:Program} (w:World) (tx ty:TypeId) {t e:TypeId} (bt:ByteTy P t e) (base:Nat) (v:Value) (l:List UInt8) (hown:OwnB e base w v l) (x:Value) (news:List UInt8)
  (hsrc:Src P 1 tx x news.length (bv news) w) (hlen:l.length+news.length≤140737488355328) (hbase:base≤w.heap.size) :
  ∃ v' w',(Builtin.append_ #[t,tx] ty #[v,x]).run P w = .ok v' w'∧OwnB e base w' v' (l ++ news)∧Below base w w'∧w.grownBy w' v.ownBlock:=by
 obtain ⟨i,hi,hz,hs1,hb1⟩:=bt.info
 have h63:l.length+news.length≤maxLen:=by unfold maxLen;omega
 rcases hown.2 with ⟨rfl,h0⟩ | ⟨g,cap,cur,rfl,hbg,hg,hnc,hcm,hcs,htake⟩
 ·have hl:l = []:=List.eq_nil_of_length_eq_zero h0
  subst hl
  by_cases hn:news.length = 0
  ·have hnn:news = []:=List.eq_nil_of_length_eq_zero hn
   subst hnn
   refine ⟨.slice none 0 0,w,?_,World.ownsRow_nil w base e 1,Below.refl _ _,⟨rfl,rfl,rfl,Nat.le_refl _,fun _ _ _=>rfl⟩⟩
   have hc:(Builtin.firstCells 1 0 x).run P w = .ok #[] w:=hsrc.cells
   have hl0:∀ w':World,(Builtin.lenOf x).run P w' = .ok 0 w':=hsrc.len
   rcases hsrc.kind with ⟨e',hk⟩ | hk <;>
    simp [Builtin.append_,run_underlying bt.slice,run_underlying hk,sizeOf,typeInfo,hi,hs1,hl0,hc]
  ·have hr:=run_append_grow_src (P:=P) w t tx ty e i (.int .u8 0) bt.slice hi hz none 0 0 [] (run_firstCells_none w.drew _ 0 0 0) x news.length (bv news) (hs1 ▸ hsrc) (by omega) (by simp only [maxLen] at h63;simp at h63;omega)
    (by rw [hb1];exact growslice_fits (by omega) (by simp at hlen ⊢;omega))
   refine ⟨_,_,hr,⟨by simp [bv_length],.inr ⟨w.heap.size,grownCap w (0+news.length) 0 e,_,by simp,hbase,heap_alloc_new w.drew _,by simpa using grownCap_ge w (0+news.length) 0 e,grownCap_le_maxLen w _ 0 e (by simpa using h63),?_,?_⟩⟩,
    ((Below.refl _ _).drew).alloc (by simpa using hbase) _,⟨rfl,rfl,rfl,by simp,fun k hk _=>Below.heap_alloc w.drew _ k hk⟩⟩
   ·have hge:=grownCap_ge w (0+news.length) 0 e
    simp [bv_length,Builtin.zeroCells,Value.cells] at hge ⊢
    omega
   ·simp [bv_length,List.take_left']
 ·by_cases hroom:l.length+news.length≤cap
  ·have hcs':cur.size = cap:=by simpa using hcs
   have hst:=run_storeCells_at P g (l.length * 1) e (bv news) 0 cur w hg (by simp [bv_length];omega) (bv_one news)
   simp only [Nat.add_zero,Nat.mul_one] at hst
   have hc:=hsrc.cells
   have hr:(Builtin.append_ #[t,tx] ty #[.slice (some ⟨g,0,none⟩) l.length cap,x]).run P w =
     .ok (.slice (some ⟨g,0,none⟩) (l.length+news.length) cap) (w.setRow g (cur.toList.take l.length ++ bv news ++ cur.toList.drop (l.length+(bv news).length)).toArray):=by
    rcases hsrc.kind with ⟨e',hk⟩ | hk <;>
     simp [Builtin.append_,run_underlying bt.slice,run_underlying hk,sizeOf,typeInfo,hi,hs1,hsrc.len,hroom,hc,Addr.add_lit,hst]
   have htake':cur.toList.take l.length = bv l:=by simpa using htake
   refine ⟨_,_,hr,⟨by simp [bv_length],.inr ⟨g,cap,_,by simp,hbg,setRow_heap w g cur _ e _ hg,by simpa using hroom,hcm,?_,?_⟩⟩,?_,⟨rfl,rfl,rfl,by simp,fun k _ hk=>setRow_other w g k _ (fun e=>hk (by simp [Value.ownBlock,e]))⟩⟩
   ·simp [bv_length];omega
   ·rw [htake']
    rw [show ((bv l ++ bv news ++ List.drop (l.length+(bv news).length) cur.toList).toArray).toList = bv (l ++ news) ++ List.drop (l.length+(bv news).length) cur.toList by simp [bv_append]]
    exact List.take_left' (by simp [bv_length])
   ·exact ⟨rfl,rfl,rfl,by simp,fun k hk=>setRow_other w g k _ (by omega)⟩
  ·have holds:∀ j u,(bv l)[j]? = some u→w.cell? ((⟨g,0,none⟩:Addr).add j) = some u:=hown.cells (g:=g) rfl
   have hold:=run_firstCells_some (P:=P) w.drew 1 l.length ⟨g,0,none⟩ l.length cap (bv l) (by simp [bv_length]) (by simpa using holds)
   have hr:=run_append_grow_src (P:=P) w t tx ty e i (.int .u8 0) bt.slice hi hz (some ⟨g,0,none⟩) l.length cap (bv l) (hs1 ▸ hold) x news.length (bv news) (hs1 ▸ hsrc) (by omega) (by simp only [maxLen] at h63;omega)
    (by rw [hb1];exact growslice_fits (by omega) (by omega))
   have hge:=grownCap_ge w (l.length+news.length) cap e
   refine ⟨_,_,hr,⟨by simp [bv_length],.inr ⟨w.heap.size,_,_,by simp,hbase,heap_alloc_new w.drew _,by simpa using hge,grownCap_le_maxLen w _ cap e h63,?_,?_⟩⟩,
    ((Below.refl _ _).drew).alloc (by simpa using hbase) _,⟨rfl,rfl,rfl,by simp,fun k hk _=>Below.heap_alloc w.drew _ k hk⟩⟩
   ·simp [bv_length,Builtin.zeroCells,Value.cells]
    omega
   ·simp [bv_append,bv_length,List.take_append,List.take_of_length_le]
theorem wpList_appendB {P:Program} {w:World} {ops:Array Oper} {rest:List Oper} {o:Oper} {a:Act} {Q:Exit→Act→World→Prop} (hgd:o.guard = none) (s x:Operand) (t tx:TypeId)
  (ho:o.op = .call { callee:=.builtin .append,args:=#[s,x],argTypes:=#[t,tx] }) {e:TypeId} (bt:ByteTy P t e) (base:Nat) (v:Value) (hs:a.eval s = v) (l:List UInt8) (hown:OwnB e base w v l)
  (vx:Value) (hx:a.eval x = vx) (news:List UInt8) (hsrc:Src P 1 tx vx news.length (bv news) w) (hlen:l.length+news.length≤140737488355328) (hbase:base≤w.heap.size)
  (h:∀ v' w',OwnB e base w' v' (l ++ news)→Below base w w'→w.grownBy w' v.ownBlock→wpList P ops Q rest (a.put o.dst v') w'):wpList P ops Q (o :: rest) a w:=by
 refine wpList_plain hgd fun K hK=>?_
 obtain ⟨v',w',hr,h2,h3,h4⟩:=run_appendB (P:=P) w tx o.type bt base v l hown vx news hsrc hlen hbase
 unfold Oper.wp execOp
 simp only [ho,resolve,invoke,builtin,Sem.run_bind,Sem.run_pure,Result.andThen_ok,List.map_toArray,List.map_cons,List.map_nil,hs,hx,hr]
 exact hK _ _ (h v' w' h2 h3 h4)
theorem run_string_of {P:Program} {t e dst:TypeId} (bt:ByteTy P t e) (hd:P.underlying dst = some .string) {w:World} {v:Value} {l:List UInt8} (h:RdB w v l) :
  (convert t dst v).run P w = .ok (.string ⟨l.toArray⟩) w:=by
 rcases h with ⟨a,c,rfl,rfl⟩ | ⟨g,off,cap,rfl,hg,_,_,hc⟩
 ·cases a with
  | none=>exact run_convert_bytes_nil (w:=w) t e bt.slice bt.elem 0 c dst hd
  | some a=>exact run_convert_bytes_back w t dst e a c [] bt.slice bt.elem hd fun j hj=>by simp at hj
 ·refine run_convert_bytes_back w t dst e ⟨g,off,none⟩ cap l bt.slice bt.elem hd fun j hj=>?_
  rw [addr_add,hc j hj]
  simp [List.getD,List.getElem?_eq_getElem hj]
theorem RdB.length {w:World} {v:Value} {l:List UInt8} (h:RdB w v l):∃ a cap,v = .slice a l.length cap:=by
 rcases h with ⟨a,c,rfl,rfl⟩ | ⟨g,off,cap,rfl,_⟩
 ·exact ⟨a,c,rfl⟩
 ·exact ⟨_,cap,rfl⟩
theorem slice_rd {P:Program} {t e:TypeId} (bt:ByteTy P t e) (g off len cap lo hi:Nat) (h1:lo≤hi) (h2:hi≤cap) :
  ∃ v2,(∀ (l h:Int),l = lo→h = hi→∀ W,(Instr.slice t (.slice (some ⟨g,off,none⟩) len cap) (some (.int .i64 l)) (some (.int .i64 h)) none).run P W = .ok v2 W) ∧
   ∀ W (L:List UInt8),L.length = len→hi≤len→len≤cap→cap≤maxLen→g < W.heap.size→(∀ j,j < L.length→W.cell? ⟨g,off+j,none⟩ = some (.int .u8 (L.getD j 0).toNat))→RdB W v2 ((L.drop lo).take (hi - lo)):=by
 have helem:P.elem t = e:=by simp [Program.elem,bt.slice]
 have ht:P.underlying t = some (.slice (P.elem t)):=by rw [helem];exact bt.slice
 obtain ⟨i,hi',hz,hs1,hb1⟩:=bt.info
 refine ⟨sliced (some ⟨g,off,none⟩) lo hi cap 1,?_,?_⟩
 ·rintro l h rfl rfl W
  have hsz:(sizeOf (P.elem t)).run P W = .ok 1 W:=by rw [helem];simp [sizeOf,typeInfo,hi',hs1]
  rw [run_slice_lh (w:=W) t _ _ _ ht .i64 .i64 lo hi (by omega) (by omega) (by omega),hsz]
  simp
 ·intro W L hL hhi hlc hcm hg hc
  have hlen:((L.drop lo).take (hi - lo)).length = hi - lo:=by simp;omega
  unfold sliced
  by_cases hcl:cap = lo
  ·refine .inr ⟨g,off,cap - lo,by rw [if_pos hcl,hlen],hg,by rw [hlen];omega,by omega,fun j hj=>?_⟩
   rw [hlen] at hj;omega
  ·refine .inr ⟨g,off+lo,cap - lo,by rw [if_neg hcl,hlen];simp [addr_add],hg,by rw [hlen];omega,by omega,fun j hj=>?_⟩
   rw [hlen] at hj
   rw [Nat.add_assoc,hc (lo+j) (by omega)]
   congr 3
   simp [List.getD,List.getElem?_take,hj]
end Go.Proofs.YtpcpaoeajcjoiaaGreatDoor.Kit
namespace Go.Proofs.YtpcpaoeajcjoiaaGreatDoor.Kit
open Go.RowKit
def Bk (w:World) (g:Nat) (t:TypeId) (cs:Array Value):Prop:=w.heap[g]? = some (.cells cs t (0,0))
theorem Bk.lt {w:World} {g:Nat} {t:TypeId} {cs:Array Value} (h:Bk w g t cs):g < w.heap.size:=(Array.getElem?_eq_some_iff.1 h).1
theorem Bk.cell {w:World} {g:Nat} {t:TypeId} {cs:Array Value} (h:Bk w g t cs) (i:Nat):w.cell? ⟨g,i,none⟩ = cs[i]?:=by
 unfold Bk at h;simp [World.cell?,h]
theorem Bk.free {w:World} {g:Nat} {t:TypeId} {cs:Array Value} (h:Bk w g t cs) (i:Nat):w.frozen? ⟨g,i,none⟩ = false:=by
 unfold Bk at h;simp [World.frozen?,h]
theorem Bk.below {w w':World} {g B:Nat} {t:TypeId} {cs:Array Value} (h:Bk w g t cs) (hb:Below B w w') (hg:g < B):Bk w' g t cs:=(hb.block g hg).trans h
theorem Bk.kept {w w':World} {g:Nat} {t:TypeId} {cs:Array Value} (h:Bk w g t cs) (hb:Below w.heap.size w w'):Bk w' g t cs:=h.below hb h.lt
theorem Bk.fresh (w:World) (t:TypeId) (cs:Array Value):Bk (w.alloc (.cells cs t)) w.heap.size t cs:=heap_alloc_new w _
theorem Bk.set {w:World} {g:Nat} {t:TypeId} {cs:Array Value} (h:Bk w g t cs) (i:Nat) (u:Value):Bk (w.setCell ⟨g,i,none⟩ u) g t (cs.setIfInBounds i u):=by
 unfold Bk at h ⊢
 simp [World.setCell,Array.getElem?_modify,h]
theorem Bk.setRow {w:World} {g:Nat} {t:TypeId} {cs:Array Value} (h:Bk w g t cs) (cs':Array Value):Bk (w.setRow g cs') g t cs':=setRow_heap w g cs cs' t (0,0) h
theorem Bk.uniq {w:World} {g:Nat} {t t':TypeId} {cs cs':Array Value} (h:Bk w g t cs) (h':Bk w g t' cs'):t = t'∧cs = cs':=by
 unfold Bk at h h'
 rw [h] at h'
 injection h' with h'
 injection h' with h1 h2
 exact ⟨h2,h1⟩
theorem Bk.ne {w:World} {g g':Nat} {t t':TypeId} {cs cs':Array Value} (h:Bk w g t cs) (h':Bk w g' t' cs') (hne:t ≠ t'):g ≠ g':=by
 rintro rfl;exact hne (h.uniq h').1
def But (g:Nat) (w w':World):Prop:=w.grownBy w' (some g)
theorem But.block {g k:Nat} {w w':World} (h:But g w w') (hk:k < w.heap.size) (hne:k ≠ g):w'.heap[k]? = w.heap[k]?:=
 World.grownBy.block h k hk (fun e=>hne (by injection e))
theorem But.bk {g k:Nat} {w w':World} {t:TypeId} {cs:Array Value} (h:But g w w') (hk:Bk w k t cs) (hne:k ≠ g):Bk w' k t cs:=(h.block hk.lt hne).trans hk
theorem But.size {g:Nat} {w w':World} (h:But g w w'):w.heap.size≤w'.heap.size:=World.grownBy.size h
theorem But.of_below {g:Nat} {w w':World} (h:Below w.heap.size w w'):But g w w':=⟨h.os,h.tape,h.output,h.size,fun i hi _=>h.block i hi⟩
theorem But.trans {g:Nat} {a b c:World} (h:But g a b) (k:But g b c):But g a c:=
 ⟨(World.grownBy.os k).trans (World.grownBy.os h),(World.grownBy.tape k).trans (World.grownBy.tape h),(World.grownBy.output k).trans (World.grownBy.output h),Nat.le_trans h.size k.size,
  fun i hi hne=>(World.grownBy.block k i (Nat.lt_of_lt_of_le hi h.size) hne).trans (World.grownBy.block h i hi hne)⟩
theorem But.below {g B:Nat} {w w':World} (h:But g w w') (hB:B≤g) (hs:B≤w.heap.size):Below B w w':=
 (Below.refl B w).grown h hs (fun k hk=>by injection hk with hk;omega)
theorem But.undrew {g:Nat} {w w':World} (h:But g w.drew w'):But g w w':=by
 have h':w.drew.grownBy w' (some g):=h
 exact ⟨h'.os,h'.tape,h'.output,h'.size,h'.block⟩
theorem But.setRow (w:World) (g:Nat) (cs:Array Value):But g w (w.setRow g cs):=⟨rfl,rfl,rfl,by simp [World.setRow],fun k _ hk=>setRow_other w g k cs (fun e=>hk (by rw [e]))⟩
theorem But.setCell (w:World) (g i:Nat) (u:Value):But g w (w.setCell ⟨g,i,none⟩ u):=⟨rfl,rfl,rfl,by simp [World.setCell],fun k _ hk=>Below.heap_setCell w _ u k (fun e=>hk (by rw [e]))⟩
def Rd (w:World) (size:Nat) (v:Value) (n:Nat) (xs:List Value):Prop:=
 xs.length = n * size∧∃ A c,v = .slice A n c∧n≤c∧c≤maxLen∧(0 < n→∃ g off,A = some ⟨g,off,none⟩∧g < w.heap.size∧∀ j u,xs[j]? = some u→w.cell? ⟨g,off+j,none⟩ = some u)
theorem Rd.form {w:World} {size:Nat} {v:Value} {n:Nat} {xs:List Value} (h:Rd w size v n xs):∃ A c,v = .slice A n c:=by
 obtain ⟨_,A,c,h,_⟩:=h;exact ⟨A,c,h⟩
theorem Rd.nil (w:World) (size:Nat):Rd w size (.slice none 0 0) 0 []:=⟨by simp,none,0,rfl,Nat.le_refl _,Nat.zero_le _,fun h=>absurd h (by omega)⟩
theorem Rd.len {w:World} {size:Nat} {v:Value} {n:Nat} {xs:List Value} (h:Rd w size v n xs):xs.length = n * size:=h.1
def Off (v:Value) (g:Nat):Prop:=∀ k off n c,v = .slice (some ⟨k,off,none⟩) n c→0 < n→k ≠ g
theorem Rd.keep {w w':World} {size:Nat} {v:Value} {n:Nat} {xs:List Value} (h:Rd w size v n xs) (hs:w.heap.size≤w'.heap.size)
  (hk:∀ g off c,v = .slice (some ⟨g,off,none⟩) n c→0 < n→g < w.heap.size→w'.heap[g]? = w.heap[g]?):Rd w' size v n xs:=by
 obtain ⟨h1,A,c,rfl,h2,h3,h4⟩:=h
 refine ⟨h1,A,c,rfl,h2,h3,fun hn=>?_⟩
 obtain ⟨g,off,rfl,hg,hc⟩:=h4 hn
 exact ⟨g,off,rfl,Nat.lt_of_lt_of_le hg hs,fun j u hu=>(World.cell?_of_block (a:=⟨g,off+j,none⟩) (hk g off c rfl hn hg)).trans (hc j u hu)⟩
theorem Rd.kept {w w':World} {size:Nat} {v:Value} {n:Nat} {xs:List Value} (h:Rd w size v n xs) (hb:Below w.heap.size w w'):Rd w' size v n xs:=h.keep hb.size fun g _ _ _ _ hg=>hb.block g hg
theorem Rd.but {w w':World} {size g:Nat} {v:Value} {n:Nat} {xs:List Value} (h:Rd w size v n xs) (hb:But g w w') (ho:Off v g):Rd w' size v n xs:=h.keep hb.size fun k off c e hn hk=>hb.block hk (ho k off n c e hn)
theorem Rd.below {w w':World} {size B:Nat} {v:Value} {n:Nat} {xs:List Value} (h:Rd w size v n xs) (hb:Below B w w') (ho:∀ k off c,v = .slice (some ⟨k,off,none⟩) n c→0 < n→k < B):Rd w' size v n xs:=h.keep hb.size fun k off c e hn hk=>hb.block k (ho k off c e hn)
structure RowTy (P:Program) (t e:TypeId) (size bytes:Nat):Prop where
 slice:P.underlying t = some (.slice e)
 info:∃ i z,P.info? e = some i∧i.zero = some z∧i.size = size∧i.bytes = bytes∧z.cells.size = size
theorem Rd.src {P:Program} {t e:TypeId} {size bytes:Nat} (ty:RowTy P t e size bytes) {w:World} {v:Value} {n:Nat} {xs:List Value} (h:Rd w size v n xs) (h1:∀ u ∈ xs,u.oneCell' = true):Src P size t v n xs w:=by
 obtain ⟨hl,A,c,rfl,h2,h3,h4⟩:=h
 cases A with
 | none=>
  have hn:n = 0:=by
   rcases Nat.eq_zero_or_pos n with h0 | h0
   ·exact h0
   ·obtain ⟨g,off,h,_⟩:=h4 h0;cases h
  subst hn
  obtain rfl:xs = []:=List.eq_nil_of_length_eq_zero (by simpa using hl)
  exact Src.ofNil w ty.slice c
 | some a=>
  refine Src.ofSlice w ty.slice a n c xs hl ?_ h1
  intro j u hu
  rcases Nat.eq_zero_or_pos n with h0 | h0
  ·subst h0
   obtain rfl:xs = []:=List.eq_nil_of_length_eq_zero (by simpa using hl)
   simp at hu
  ·obtain ⟨g,off,e,_,hc⟩:=h4 h0
   injection e with e
   subst e
   rw [addr_add]
   exact hc j u hu
theorem Rd.of_own {w:World} {base:Nat} {e:TypeId} {size:Nat} {v:Value} {n:Nat} {xs:List Value} (h:w.ownsRow base e size v n xs):Rd w size v n xs:=by
 obtain ⟨h1,h2⟩:=h
 rcases h2 with ⟨rfl,rfl⟩ | ⟨g,cap,cur,rfl,hb,hh,hnc,hcm,hcs,htake⟩
 ·exact ⟨h1,none,0,rfl,Nat.le_refl _,Nat.zero_le _,fun h=>absurd h (by omega)⟩
 ·refine ⟨h1,_,cap,rfl,hnc,hcm,fun hn=>⟨g,0,rfl,(Array.getElem?_eq_some_iff.1 hh).1,fun j u hu=>?_⟩⟩
  have hj:j < n * size:=by have:=(List.getElem?_eq_some_iff.1 hu).1;omega
  rw [← htake,List.getElem?_take,if_pos hj] at hu
  simp only [World.cell?,hh]
  simpa using hu
theorem run_append_new {P:Program} (w:World) (tx ty:TypeId) {t e:TypeId} {size bytes:Nat} (rt:RowTy P t e size bytes) (hsz:0 < size) (A:Option Addr) (x:Value) (n:Nat) (xs:List Value) (hsrc:Src P size tx x n xs w)
  (h63:n≤maxLen) (hby:n * bytes≤140737488355328) :
  ∃ v' w',(Builtin.append_ #[t,tx] ty #[.slice A 0 0,x]).run P w = .ok v' w'∧Rd w' size v' n xs∧Below w.heap.size w w' ∧
   (0 < n→w'.ownsRow w.heap.size e size v' n xs)∧(n = 0→v' = .slice A 0 0∧w' = w):=by
 obtain ⟨i,z,hi,hz,rfl,rfl,hzs⟩:=rt.info
 have hxl:=hsrc.newsLen
 by_cases hn:n = 0
 ·subst hn
  obtain rfl:xs = []:=List.eq_nil_of_length_eq_zero (by simpa using hxl)
  have hc:(Builtin.firstCells i.size 0 x).run P w = .ok #[] w:=hsrc.cells
  have hl0:∀ w':World,(Builtin.lenOf x).run P w' = .ok 0 w':=hsrc.len
  refine ⟨.slice A 0 0,w,?_,⟨by simp,A,0,rfl,Nat.le_refl _,Nat.zero_le _,fun h=>absurd h (by omega)⟩,Below.refl _ _,fun h=>absurd h (by omega),fun _=>⟨rfl,rfl⟩⟩
  cases A with
  | none=>rcases hsrc.kind with ⟨e',hk⟩ | hk <;> simp [Builtin.append_,run_underlying rt.slice,run_underlying hk,sizeOf,typeInfo,hi,hl0,hc]
  | some a=>rcases hsrc.kind with ⟨e',hk⟩ | hk <;> simp [Builtin.append_,run_underlying rt.slice,run_underlying hk,sizeOf,typeInfo,hi,hl0,hc,storeCells]
 ·have hold:(Builtin.firstCells i.size 0 (.slice A 0 0)).run P w.drew = .ok ([]:List Value).toArray w.drew:=by
   cases A with
   | none=>exact run_firstCells_none w.drew i.size 0 0 0
   | some a=>exact run_firstCells_some w.drew i.size 0 a 0 0 [] (by simp) (by intro _ _ h';simp at h')
  have hr:=run_append_grow_src (P:=P) w t tx ty e i z rt.slice hi hz A 0 0 [] hold x n xs hsrc (by omega) (by simp only [maxLen] at h63;simp;omega)
   (growslice_fits (by omega) (by simpa using hby))
  have hge:=grownCap_ge w (0+n) 0 e
  have hown:∀ w0:World,w0 = w.drew.alloc (.cells (([] ++ xs).toArray ++ Builtin.zeroCells z.cells (grownCap w (0+n) 0 e - (0+n))) e)→w0.ownsRow w.heap.size e i.size (.slice (some ⟨w.heap.size,0,none⟩) (0+n) (grownCap w (0+n) 0 e)) n xs:=by
   rintro w0 rfl
   refine ⟨hxl,.inr ⟨w.heap.size,grownCap w (0+n) 0 e,_,by simp,Nat.le_refl _,heap_alloc_new w.drew _,by omega,grownCap_le_maxLen w _ 0 e (by simpa using h63),?_,?_⟩⟩
   ·simp [Builtin.zeroCells,hxl,hzs]
    simp only [Nat.zero_add] at hge
    rw [← Nat.add_mul];congr 1;omega
   ·simp only [List.nil_append,Array.toList_append]
    exact List.take_left' hxl
  have ho:=hown _ rfl
  exact ⟨_,_,hr,Rd.of_own ho,((Below.refl _ _).drew).alloc (Nat.le_refl _) _,fun _=>ho,fun h=>absurd h hn⟩
theorem wpList_append_new {P:Program} {w:World} {ops:Array Oper} {rest:List Oper} {o:Oper} {a:Act} {Q:Exit→Act→World→Prop} (hgd:o.guard = none) (d s:Operand) (t tx:TypeId)
  (ho:o.op = .call { callee:=.builtin .append,args:=#[d,s],argTypes:=#[t,tx] }) {e:TypeId} {size bytes:Nat} (rt:RowTy P t e size bytes) (hsz:0 < size) (A:Option Addr) (hd:a.eval d = .slice A 0 0)
  (x:Value) (hx:a.eval s = x) (n:Nat) (xs:List Value) (hsrc:Src P size tx x n xs w) (h63:n≤maxLen) (hby:n * bytes≤140737488355328)
  (h:∀ v' w',Rd w' size v' n xs→Below w.heap.size w w'→(0 < n→w'.ownsRow w.heap.size e size v' n xs)→(n = 0→v' = .slice A 0 0∧w' = w)→wpList P ops Q rest (a.put o.dst v') w'):wpList P ops Q (o :: rest) a w:=by
 refine wpList_plain hgd fun K hK=>?_
 obtain ⟨v',w',hrun,h2,h3,h4,h5⟩:=run_append_new (P:=P) w tx o.type rt hsz A x n xs hsrc h63 hby
 unfold Oper.wp execOp
 simp only [ho,resolve,invoke,builtin,Sem.run_bind,Sem.run_pure,Result.andThen_ok,List.map_toArray,List.map_cons,List.map_nil,hd,hx,hrun]
 exact hK _ _ (h v' w' h2 h3 h4 h5)
def lay {α:Type} (cur:List α) (off:Nat) (l:List α):List α:=cur.take off ++ (l ++ cur.drop (off+l.length))
def Rw (w:World) (g:Nat) (t:TypeId) (cap:Nat) (b:List UInt8):Prop:=∃ cur:List Value,Bk w g t cur.toArray∧cur.length = cap∧cur.take b.length = bv b
theorem Rw.lt {w:World} {g cap:Nat} {t:TypeId} {b:List UInt8} (h:Rw w g t cap b):g < w.heap.size:=by obtain ⟨_,h,_⟩:=h;exact h.lt
theorem Rw.le {w:World} {g cap:Nat} {t:TypeId} {b:List UInt8} (h:Rw w g t cap b):b.length≤cap:=by
 obtain ⟨cur,_,h2,h3⟩:=h
 have:=congrArg List.length h3
 simp [bv_length] at this
 omega
theorem Rw.cell {w:World} {g cap:Nat} {t:TypeId} {b:List UInt8} (h:Rw w g t cap b) {j:Nat} (hj:j < b.length):w.cell? ⟨g,j,none⟩ = some (.int .u8 (b.getD j 0).toNat):=by
 obtain ⟨cur,h1,h2,h3⟩:=h
 rw [h1.cell]
 have h4:(cur.take b.length)[j]? = (bv b)[j]?:=by rw [h3]
 rw [List.getElem?_take,if_pos hj] at h4
 simp only [List.getElem?_toArray,h4,bv]
 simp [List.getD,List.getElem?_eq_getElem hj]
theorem Rw.free {w:World} {g cap:Nat} {t:TypeId} {b:List UInt8} (h:Rw w g t cap b) (j:Nat):w.frozen? ⟨g,j,none⟩ = false:=by obtain ⟨_,h,_⟩:=h;exact h.free j
theorem Rw.of {w:World} {g:Nat} {t:TypeId} {b:List UInt8} (h:Bk w g t (bv b).toArray):Rw w g t b.length b:=⟨bv b,h,bv_length b,by rw [List.take_of_length_le (by rw [bv_length];exact Nat.le_refl _)]⟩
theorem Rw.kept {w w':World} {g cap:Nat} {t:TypeId} {b:List UInt8} (h:Rw w g t cap b) (hb:Below w.heap.size w w'):Rw w' g t cap b:=by
 obtain ⟨cur,h1,h2⟩:=h;exact ⟨cur,h1.kept hb,h2⟩
theorem Rw.but {w w':World} {g g' cap:Nat} {t:TypeId} {b:List UInt8} (h:Rw w g t cap b) (hb:But g' w w') (hne:g ≠ g'):Rw w' g t cap b:=by
 obtain ⟨cur,h1,h2⟩:=h;exact ⟨cur,hb.bk h1 hne,h2⟩
theorem Rw.ne {w:World} {g g' cap:Nat} {t t':TypeId} {b:List UInt8} {cs:Array Value} (h:Rw w g t cap b) (h':Bk w g' t' cs) (hne:t' ≠ t):g' ≠ g:=by
 obtain ⟨cur,h1,_⟩:=h;exact h'.ne h1 hne
theorem Rw.set {w:World} {g cap:Nat} {t:TypeId} {b:List UInt8} (h:Rw w g t cap b) (i:Nat) (c:UInt8):Rw (w.setCell ⟨g,i,none⟩ (.int .u8 c.toNat)) g t cap (b.set i c):=by
 obtain ⟨cur,h1,h2,h3⟩:=h
 refine ⟨cur.set i (.int .u8 c.toNat),by simpa using h1.set i (.int .u8 c.toNat),by simpa using h2,?_⟩
 rw [List.length_set,List.take_set,h3]
 simp [bv]
theorem OwnB.rw {e:TypeId} {base:Nat} {w:World} {v:Value} {l:List UInt8} (h:OwnB e base w v l) (h0:0 < l.length):∃ g cap,v = .slice (some ⟨g,0,none⟩) l.length cap∧base≤g∧cap≤maxLen∧Rw w g e cap l:=by
 rcases h.2 with ⟨_,h0'⟩ | ⟨g,cap,cur,rfl,hb,hh,hnc,hcm,hcs,htake⟩
 ·omega
 ·exact ⟨g,cap,rfl,hb,hcm,cur.toList,by simpa [Bk] using hh,by simpa using hcs,by simpa using htake⟩
theorem run_copyB {P:Program} (w:World) (sT ty:TypeId) {dT e:TypeId} (bt:ByteTy P dT e) (g off dLen dCap cap:Nat) (sv:Value) (cur l:List UInt8) (t:TypeId)
  (hg:Rw w g t cap cur) (hs:RdB w sv l) (hfit:off+min l.length dLen≤cur.length) :
  ∃ w',(Builtin.copy_ #[dT,sT] ty #[.slice (some ⟨g,off,none⟩) dLen dCap,sv]).run P w = .ok (goInt (min l.length dLen:Nat)) w'∧Rw w' g t cap (lay cur off (l.take dLen))∧But g w w':=by
 obtain ⟨i,hi,hz,hs1,hb1⟩:=bt.info
 have hsz:(P.info? e).map (·.size) = some 1:=by rw [hi];simp [hs1]
 by_cases h0:min l.length dLen = 0
 ·have hl:l.take dLen = []:=by
   rcases Nat.eq_zero_or_pos dLen with h | h
   ·simp [h]
   ·obtain rfl:l = []:=List.eq_nil_of_length_eq_zero (by omega)
    simp
  rw [hl,h0]
  obtain ⟨sa,sc,rfl⟩:∃ sa sc,sv = .slice sa l.length sc:=hs.length
  refine ⟨w,run_copy_none (P:=P) w dT sT ty e (some ⟨g,off,none⟩) sa dLen dCap l.length sc bt.slice hsz h0,by simpa [lay] using hg,?_⟩
  exact But.of_below (Below.refl _ _)
 ·rcases hs with ⟨_,_,_,rfl⟩ | ⟨gs,os,scap,rfl,hgs,hlc,hcm,hcell⟩
  ·simp at h0
  ·have hcl:=hg.le
   obtain ⟨row,hrow,hrl,hrt⟩:=hg
   have hcs:(bv (l.take dLen)).length = min l.length dLen:=by rw [bv_length,List.length_take,Nat.min_comm]
   have hr:=run_copy_row (P:=P) w dT sT ty e g off dLen dCap ⟨gs,os,none⟩ l.length scap row.toArray t (bv (l.take dLen)) bt.slice hsz hrow hcs
    (fun j v hv=>by
     have hj:j < (l.take dLen).length:=by simpa [bv_length] using (List.getElem?_eq_some_iff.1 hv).1
     have hj2:j < l.length:=by simp at hj;omega
     rw [addr_add,hcell j hj2,← hv]
     have hj3:j < dLen:=by simp at hj;omega
     simp [bv,List.getD,List.getElem?_eq_getElem hj2,List.getElem?_take,hj3])
    (by rw [hcs];simp;omega) (bv_one _)
   rw [hcs] at hr
   have hk:(l.take dLen).length = min l.length dLen:=by rw [List.length_take,Nat.min_comm]
   generalize l.take dLen = m at *
   generalize min l.length dLen = k at *
   subst hk
   have hll:(lay cur off m).length = cur.length:=by simp [lay];omega
   refine ⟨_,hr,⟨_,hrow.setRow _,by simp [bv_length];omega,?_⟩,But.setRow _ _ _⟩
   rw [hll]
   have e1:row = bv cur ++ row.drop cur.length:=by rw [← hrt,List.take_append_drop]
   have hbl:=bv_length cur
   have e2:row.take off = (bv cur).take off:=by
    rw [e1,List.take_append_of_le_length (by omega)]
   have e3:row.drop (off+m.length) = (bv cur).drop (off+m.length) ++ row.drop cur.length:=by
    conv=>lhs;rw [e1]
    rw [List.drop_append_of_le_length (by omega)]
   simp only [List.toList_toArray] at *
   rw [e2,e3]
   have e4:(bv cur).take off ++ bv m ++ ((bv cur).drop (off+m.length) ++ row.drop cur.length) = bv (lay cur off m) ++ row.drop cur.length:=by
    simp [lay,bv]
   rw [e4]
   exact List.take_left' (by rw [bv_length,hll])
theorem wp_copyB {P:Program} {w:World} {o:Oper} {a:Act} {K:Act→World→Prop} {Q:Exit→Act→World→Prop} (d s:Operand) (dT sT:TypeId)
  (ho:o.op = .call { callee:=.builtin .copy,args:=#[d,s],argTypes:=#[dT,sT] }) {e:TypeId} (bt:ByteTy P dT e) (g off dLen dCap cap:Nat) (hd:a.eval d = .slice (some ⟨g,off,none⟩) dLen dCap)
  (sv:Value) (hs:a.eval s = sv) (cur l:List UInt8) (t:TypeId) (hg:Rw w g t cap cur) (hr:RdB w sv l) (hfit:off+min l.length dLen≤cur.length)
  (h:∀ w',Rw w' g t cap (lay cur off (l.take dLen))→But g w w'→K (a.put o.dst (goInt (min l.length dLen:Nat))) w'):Oper.wp P o a w K Q:=by
 obtain ⟨w',hrun,h2,h3⟩:=run_copyB (P:=P) w sT o.type bt g off dLen dCap cap sv cur l t hg hr hfit
 unfold Oper.wp execOp
 simp only [ho,resolve,invoke,builtin,Sem.run_bind,Sem.run_pure,Result.andThen_ok,List.map_toArray,List.map_cons,List.map_nil,hd,hs,hrun]
 exact h w' h2 h3
theorem wpList_copyB {P:Program} {w:World} {ops:Array Oper} {rest:List Oper} {o:Oper} {a:Act} {Q:Exit→Act→World→Prop} (hgd:o.guard = none) (d s:Operand) (dT sT:TypeId)
  (ho:o.op = .call { callee:=.builtin .copy,args:=#[d,s],argTypes:=#[dT,sT] }) {e:TypeId} (bt:ByteTy P dT e) (g off dLen dCap cap:Nat) (hd:a.eval d = .slice (some ⟨g,off,none⟩) dLen dCap)
  (sv:Value) (hs:a.eval s = sv) (cur l:List UInt8) (t:TypeId) (hg:Rw w g t cap cur) (hr:RdB w sv l) (hfit:off+min l.length dLen≤cur.length)
  (h:∀ w',Rw w' g t cap (lay cur off (l.take dLen))→But g w w'→wpList P ops Q rest (a.put o.dst (goInt (min l.length dLen:Nat))) w'):wpList P ops Q (o :: rest) a w:=
 wpList_plain hgd fun K hK=>wp_copyB d s dT sT ho bt g off dLen dCap cap hd sv hs cur l t hg hr hfit fun w' h2 h3=>hK _ _ (h w' h2 h3)
theorem step_copyB {P:Program} {w:World} {ops:Array Oper} {o:Oper} {a:Act} {K:Act→World→Prop} {Q:Exit→Act→World→Prop} {E:Prop} (hgd:o.guard = none) (d s:Operand) (dT sT:TypeId)
  (ho:o.op = .call { callee:=.builtin .copy,args:=#[d,s],argTypes:=#[dT,sT] }) {e:TypeId} (bt:ByteTy P dT e) (g off dLen dCap cap:Nat) (hd:a.eval d = .slice (some ⟨g,off,none⟩) dLen dCap)
  (sv:Value) (hs:a.eval s = sv) (cur l:List UInt8) (t:TypeId) (hg:Rw w g t cap cur) (hr:RdB w sv l) (hfit:off+min l.length dLen≤cur.length)
  (h:∀ w',Rw w' g t cap (lay cur off (l.take dLen))→But g w w'→K (a.put o.dst (goInt (min l.length dLen:Nat))) w') :
  if Region.wanted o (yielded ops a.tmps) = true then Oper.wp P o a w K Q else E:=by
 have hw:Region.wanted o (yielded ops a.tmps) = true:=by simp [Region.wanted,hgd]
 rw [if_pos hw]
 exact wp_copyB d s dT sT ho bt g off dLen dCap cap hd sv hs cur l t hg hr hfit h
theorem Rw.part {w:World} {g cap:Nat} {l:List UInt8} {t:TypeId} (h:Rw w g t cap l) (lo n c:Nat) (hlo:lo+n≤l.length) (hn:n≤c) (hm:c≤maxLen):RdB w (.slice (some ⟨g,lo,none⟩) n c) ((l.drop lo).take n):=by
 have hl:((l.drop lo).take n).length = n:=by simp;omega
 refine .inr ⟨g,lo,c,by rw [hl],h.lt,by rw [hl];exact hn,hm,fun j hj=>?_⟩
 rw [hl] at hj
 rw [h.cell (by omega)]
 simp [List.getD,List.getElem?_take,hj]
end Go.Proofs.YtpcpaoeajcjoiaaGreatDoor.Kit
namespace Go.Proofs.YtpcpaoeajcjoiaaGreatDoor.Kit
open Go.RowKit Go.ChangeShapes Go.WideShapes
end Go.Proofs.YtpcpaoeajcjoiaaGreatDoor.Kit
namespace Go.Proofs.YtpcpaoeajcjoiaaGreatDoor.Kit
open Go.RowKit Go.ChangeShapes Go.WideShapes Go.Deep
theorem run_appendRB {P : Program} (w : World) (tx ty : TypeId) {t e : TypeId} {size bytes : Nat} (rt : RowTy P t e size bytes) (hsz : 0 < size) (base : Nat) (v : Value) (n : Nat) (xs : List Value) (hown : w.ownsRow base e size v n xs)
    (x : Value) (m : Nat) (news : List Value) (hsrc : Src P size tx x m news w) (hlen : (n + m) * bytes ≤ 140737488355328) (h63 : n + m ≤ maxLen) (hbase : base ≤ w.heap.size) :
    ∃ v' w', (Builtin.append_ #[t, tx] ty #[v, x]).run P w = .ok v' w' ∧ w'.ownsRow base e size v' (n + m) (xs ++ news) ∧ Below base w w' ∧ w.grownBy w' v.ownBlock ∧ ∀ k, v'.ownBlock = some k → v.ownBlock = some k ∨ w.heap.size ≤ k := by
  obtain ⟨i, z, hi, hz, rfl, rfl, hzs⟩ := rt.info
  have hnl := hsrc.newsLen
  have hxl := hown.1
  rcases hown.2 with ⟨rfl, h0⟩ | ⟨g, cap, cur, rfl, hbg, hg, hnc, hcm, hcs, htake⟩
  · subst h0
    obtain rfl : xs = [] := List.eq_nil_of_length_eq_zero (by simpa using hxl)
    obtain ⟨v', w', hr, h2, h3, h4, h5⟩ := run_append_new (P := P) w tx ty rt hsz none x m news hsrc (by omega) (by simpa using hlen)
    refine ⟨v', w', hr, ?_, h3.mono hbase, ⟨h3.os, h3.tape, h3.output, h3.size, fun i hi _ => h3.block i hi⟩, fun k hk => ?_⟩
    rotate_left
    · by_cases hm : 0 < m
      · rcases (h4 hm).2 with ⟨_, h0⟩ | ⟨g, cap, cur, e1, hb, rest⟩
        · omega
        · rw [e1] at hk
          simp [Value.ownBlock] at hk
          exact .inr (by omega)
      · obtain ⟨e1, _⟩ := h5 (by omega)
        rw [e1] at hk
        simp [Value.ownBlock] at hk
    by_cases hm : 0 < m
    · have ho := h4 hm
      rw [Nat.zero_add, List.nil_append]
      refine ⟨ho.1, ?_⟩
      rcases ho.2 with ⟨_, h0⟩ | ⟨g, cap, cur, e1, hb, rest⟩
      · omega
      · exact .inr ⟨g, cap, cur, e1, Nat.le_trans hbase hb, rest⟩
    · obtain ⟨rfl, rfl⟩ := h5 (by omega)
      have : m = 0 := by omega
      subst this
      obtain rfl : news = [] := List.eq_nil_of_length_eq_zero (by simpa using hnl)
      exact World.ownsRow_nil w' base e i.size
  · by_cases hroom : n + m ≤ cap
    · have hmul : (n + m) * i.size ≤ cap * i.size := Nat.mul_le_mul_right _ hroom
      rw [Nat.add_mul] at hmul
      have hst := run_storeCells_at P g (n * i.size) e news 0 cur w hg (by omega) hsrc.one
      simp only [Nat.add_zero] at hst
      have hc := hsrc.cells
      have hr : (Builtin.append_ #[t, tx] ty #[.slice (some ⟨g, 0, none⟩) n cap, x]).run P w =
          .ok (.slice (some ⟨g, 0, none⟩) (n + m) cap) (w.setRow g (cur.toList.take (n * i.size) ++ news ++ cur.toList.drop (n * i.size + news.length)).toArray) := by
        rcases hsrc.kind with ⟨e', hk⟩ | hk <;>
          simp [Builtin.append_, run_underlying rt.slice, run_underlying hk, sizeOf, typeInfo, hi, hsrc.len, hroom, hc, Addr.add_lit, hst]
      refine ⟨_, _, hr, ⟨by simp [hxl, hnl, Nat.add_mul], .inr ⟨g, cap, _, by simp, hbg, setRow_heap w g cur _ e _ hg, hroom, hcm, ?_, ?_⟩⟩, ?_, ⟨rfl, rfl, rfl, by simp, fun k _ hk => setRow_other w g k _ (fun e => hk (by simp [Value.ownBlock, e]))⟩, fun k hk => .inl (by simpa [Value.ownBlock] using hk)⟩
      · simp; omega
      · rw [htake]
        simp only [List.toList_toArray]
        exact List.take_left' (by simp [hxl, hnl, Nat.add_mul])
      · exact ⟨rfl, rfl, rfl, by simp, fun k hk => setRow_other w g k _ (by omega)⟩
    · have holds : ∀ j u, xs[j]? = some u → w.cell? ((⟨g, 0, none⟩ : Addr).add j) = some u := by
        intro j u hu
        obtain ⟨_, A, c, e1, _, _, h4⟩ := Rd.of_own hown
        have hj := (List.getElem?_eq_some_iff.1 hu).1
        obtain ⟨g', off, e2, _, hc⟩ := h4 (by rcases Nat.eq_zero_or_pos n with h | h; · subst h; simp at hxl; simp [hxl] at hj
                                              · exact h)
        injection e1 with e1
        rw [← e1] at e2
        injection e2 with e2
        injection e2 with e2 e3
        subst e2 e3
        rw [addr_add]
        exact hc j u hu
      have hold := run_firstCells_some (P := P) w.drew i.size n ⟨g, 0, none⟩ n cap xs (by omega) (by simpa using holds)
      have hr := run_append_grow_src (P := P) w t tx ty e i z rt.slice hi hz (some ⟨g, 0, none⟩) n cap xs hold x m news hsrc (by omega) (by simp only [maxLen] at h63; omega)
        (growslice_fits (by omega) (by omega))
      have hge := grownCap_ge w (n + m) cap e
      refine ⟨_, _, hr, ⟨by simp [hxl, hnl, Nat.add_mul], .inr ⟨w.heap.size, _, _, by simp, hbase, heap_alloc_new w.drew _, hge, grownCap_le_maxLen w _ cap e h63, ?_, ?_⟩⟩,
        ((Below.refl _ _).drew).alloc hbase _, ⟨rfl, rfl, rfl, by simp, fun k hk _ => Below.heap_alloc w.drew _ k hk⟩, fun k hk => .inr (by simp [Value.ownBlock] at hk; omega)⟩
      · simp [Builtin.zeroCells, hxl, hnl, hzs]
        rw [← Nat.add_mul, ← Nat.add_mul]; congr 1; omega
      · simp only [Array.toList_append]
        exact List.take_left' (by simp [hxl, hnl, Nat.add_mul])
theorem run_appendR {P:Program} (w:World) (tx ty:TypeId) {t e:TypeId} {size bytes:Nat} (rt:RowTy P t e size bytes) (hsz:0 < size) (base:Nat) (v:Value) (n:Nat) (xs:List Value) (hown:w.ownsRow base e size v n xs)
  (x:Value) (m:Nat) (news:List Value) (hsrc:Src P size tx x m news w) (hlen:(n+m) * bytes≤140737488355328) (h63:n+m≤maxLen) (hbase:base≤w.heap.size) :
  ∃ v' w',(Builtin.append_ #[t,tx] ty #[v,x]).run P w = .ok v' w'∧w'.ownsRow base e size v' (n+m) (xs ++ news)∧Below base w w'∧w.grownBy w' v.ownBlock:=by
 obtain ⟨v',w',h1,h2,h3,h4,_⟩:=run_appendRB (P:=P) w tx ty rt hsz base v n xs hown x m news hsrc hlen h63 hbase
 exact ⟨v',w',h1,h2,h3,h4⟩
theorem wpList_appendRB {P:Program} {w:World} {ops:Array Oper} {rest:List Oper} {o:Oper} {a:Act} {Q:Exit→Act→World→Prop} (hgd:o.guard = none) (s x:Operand) (t tx:TypeId)
  (ho:o.op = .call { callee:=.builtin .append,args:=#[s,x],argTypes:=#[t,tx] }) {e:TypeId} {size bytes:Nat} (rt:RowTy P t e size bytes) (hsz:0 < size) (base:Nat) (v:Value) (hs:a.eval s = v) (n:Nat) (xs:List Value)
  (hown:w.ownsRow base e size v n xs) (vx:Value) (hx:a.eval x = vx) (m:Nat) (news:List Value) (hsrc:Src P size tx vx m news w) (hlen:(n+m) * bytes≤140737488355328) (h63:n+m≤maxLen) (hbase:base≤w.heap.size)
  (h:∀ v' w',w'.ownsRow base e size v' (n+m) (xs ++ news)→Below base w w'→w.grownBy w' v.ownBlock→(∀ k,v'.ownBlock = some k→v.ownBlock = some k ∨ w.heap.size≤k)→wpList P ops Q rest (a.put o.dst v') w'):wpList P ops Q (o :: rest) a w:=by
 refine wpList_plain hgd fun K hK=>?_
 obtain ⟨v',w',hr,h2,h3,h4,h5⟩:=run_appendRB (P:=P) w tx o.type rt hsz base v n xs hown vx m news hsrc hlen h63 hbase
 unfold Oper.wp execOp
 simp only [ho,resolve,invoke,builtin,Sem.run_bind,Sem.run_pure,Result.andThen_ok,List.map_toArray,List.map_cons,List.map_nil,hs,hx,hr]
 exact hK _ _ (h v' w' h2 h3 h4 h5)
theorem wp_appendR {P:Program} {w:World} {o:Oper} {a:Act} {K:Act→World→Prop} {Q:Exit→Act→World→Prop} (s x:Operand) (t tx:TypeId)
  (ho:o.op = .call { callee:=.builtin .append,args:=#[s,x],argTypes:=#[t,tx] }) {e:TypeId} {size bytes:Nat} (rt:RowTy P t e size bytes) (hsz:0 < size) (base:Nat) (v:Value) (hs:a.eval s = v) (n:Nat) (xs:List Value)
  (hown:w.ownsRow base e size v n xs) (vx:Value) (hx:a.eval x = vx) (m:Nat) (news:List Value) (hsrc:Src P size tx vx m news w) (hlen:(n+m) * bytes≤140737488355328) (h63:n+m≤maxLen) (hbase:base≤w.heap.size)
  (h:∀ v' w',w'.ownsRow base e size v' (n+m) (xs ++ news)→Below base w w'→w.grownBy w' v.ownBlock→K (a.put o.dst v') w'):Oper.wp P o a w K Q:=by
 obtain ⟨v',w',hr,h2,h3,h4⟩:=run_appendR (P:=P) w tx o.type rt hsz base v n xs hown vx m news hsrc hlen h63 hbase
 unfold Oper.wp execOp
 simp only [ho,resolve,invoke,builtin,Sem.run_bind,Sem.run_pure,Result.andThen_ok,List.map_toArray,List.map_cons,List.map_nil,hs,hx,hr]
 exact h v' w' h2 h3 h4
theorem wpList_appendR {P:Program} {w:World} {ops:Array Oper} {rest:List Oper} {o:Oper} {a:Act} {Q:Exit→Act→World→Prop} (hgd:o.guard = none) (s x:Operand) (t tx:TypeId)
  (ho:o.op = .call { callee:=.builtin .append,args:=#[s,x],argTypes:=#[t,tx] }) {e:TypeId} {size bytes:Nat} (rt:RowTy P t e size bytes) (hsz:0 < size) (base:Nat) (v:Value) (hs:a.eval s = v) (n:Nat) (xs:List Value)
  (hown:w.ownsRow base e size v n xs) (vx:Value) (hx:a.eval x = vx) (m:Nat) (news:List Value) (hsrc:Src P size tx vx m news w) (hlen:(n+m) * bytes≤140737488355328) (h63:n+m≤maxLen) (hbase:base≤w.heap.size)
  (h:∀ v' w',w'.ownsRow base e size v' (n+m) (xs ++ news)→Below base w w'→w.grownBy w' v.ownBlock→wpList P ops Q rest (a.put o.dst v') w'):wpList P ops Q (o :: rest) a w:=
 wpList_plain hgd fun K hK=>wp_appendR s x t tx ho rt hsz base v hs n xs hown vx hx m news hsrc hlen h63 hbase fun v' w' h2 h3 h4=>hK _ _ (h v' w' h2 h3 h4)
theorem step_appendR {P:Program} {w:World} {ops:Array Oper} {o:Oper} {a:Act} {K:Act→World→Prop} {Q:Exit→Act→World→Prop} {E:Prop} (hgd:o.guard = none) (s x:Operand) (t tx:TypeId)
  (ho:o.op = .call { callee:=.builtin .append,args:=#[s,x],argTypes:=#[t,tx] }) {e:TypeId} {size bytes:Nat} (rt:RowTy P t e size bytes) (hsz:0 < size) (base:Nat) (v:Value) (hs:a.eval s = v) (n:Nat) (xs:List Value)
  (hown:w.ownsRow base e size v n xs) (vx:Value) (hx:a.eval x = vx) (m:Nat) (news:List Value) (hsrc:Src P size tx vx m news w) (hlen:(n+m) * bytes≤140737488355328) (h63:n+m≤maxLen) (hbase:base≤w.heap.size)
  (h:∀ v' w',w'.ownsRow base e size v' (n+m) (xs ++ news)→Below base w w'→w.grownBy w' v.ownBlock→K (a.put o.dst v') w') :
  if Region.wanted o (yielded ops a.tmps) = true then Oper.wp P o a w K Q else E:=by
 have hw:Region.wanted o (yielded ops a.tmps) = true:=by simp [Region.wanted,hgd]
 rw [if_pos hw]
 exact wp_appendR s x t tx ho rt hsz base v hs n xs hown vx hx m news hsrc hlen h63 hbase h
theorem own_kept {w w':World} {base:Nat} {e:TypeId} {size:Nat} {v:Value} {n:Nat} {xs:List Value} (h:w.ownsRow base e size v n xs) (hb:Below w.heap.size w w'):w'.ownsRow base e size v n xs:=by
 obtain ⟨h1,h2⟩:=h
 refine ⟨h1,?_⟩
 rcases h2 with h2 | ⟨g,cap,cur,rfl,hb',hh,rest⟩
 ·exact .inl h2
 ·exact .inr ⟨g,cap,cur,rfl,hb',(hb.block g (Array.getElem?_eq_some_iff.1 hh).1).trans hh,rest⟩
theorem own_rebase {w:World} {base base':Nat} {e:TypeId} {size:Nat} {v:Value} {n:Nat} {xs:List Value} (h:w.ownsRow base e size v n xs) (hb:base'≤base):w.ownsRow base' e size v n xs:=by
 obtain ⟨h1,h2⟩:=h
 refine ⟨h1,?_⟩
 rcases h2 with h2 | ⟨g,cap,cur,rfl,hb',rest⟩
 ·exact .inl h2
 ·exact .inr ⟨g,cap,cur,rfl,Nat.le_trans hb hb',rest⟩
theorem Rd.built {w:World} {g:Nat} {e:TypeId} {size:Nat} {cs:Array Value} (h:Bk w g e cs) (hs:cs.size = size):Rd w size (.slice (some ⟨g,0,none⟩) 1 1) 1 cs.toList:=by
 refine ⟨by simp [hs],_,1,rfl,Nat.le_refl _,by unfold maxLen;omega,fun _=>⟨g,0,rfl,h.lt,fun j u hu=>?_⟩⟩
 rw [h.cell]
 simpa using hu
theorem flat_at {α:Type} (f:α→List Value) (k:Nat) (hf:∀ x,(f x).length = k) (l:List α) (j i:Nat) (d:α) (hj:j < l.length) (hi:i < k):(l.flatMap f)[j * k+i]? = (f (l.getD j d))[i]?:=by
 induction l generalizing j with
 | nil=>simp at hj
 | cons x t ih=>
  rw [List.flatMap_cons]
  cases j with
  | zero=>rw [Nat.zero_mul,Nat.zero_add,List.getElem?_append_left (by rw [hf];exact hi)];rfl
  | succ j=>
   rw [show (j+1) * k+i = j * k+i+k by rw [Nat.add_mul];omega,List.getElem?_append_right (by rw [hf];omega),hf,show j * k+i+k - k = j * k+i by omega,List.getD_cons_succ]
   exact ih j (by simpa using hj)
theorem flat_length {α:Type} (f:α→List Value) (k:Nat) (hf:∀ x,(f x).length = k) (l:List α):(l.flatMap f).length = l.length * k:=by
 induction l with
 | nil=>simp
 | cons x t ih=>rw [List.flatMap_cons,List.length_append,hf,ih,List.length_cons,Nat.add_mul];omega
theorem struct_fields {H:Type} {enc:TypeId × Value→H} {P:Program} {W:World} {base:Nat} {spare:Nat→Bool} {held:Bool} {e:TypeId} {fs:Array Field} (he:P.underlying e = some (.struct fs)) (hone:oneCellFields P fs = true) (hC:P.cellsOf e = fs.size)
  {n:Nat} {cs:List Value} {y:DataW H × List MemPlace} (h:DataW.trod enc P W base spare held n e cs = some y) (hl:cs.length = fs.size) :
  ∃ m,∀ (j:Nat) (f:Field),fs[j]? = some f→∃ (v:Value) (y':DataW H × List MemPlace),cs[j]? = some v∧DataW.trod enc P W base spare held m f.type [v] = some y':=by
 obtain ⟨ys,n',hx,hy,hm,hyl,hf⟩:=DataW.trod_struct he h
 refine ⟨n',fun j f hj=>?_⟩
 obtain ⟨ho,hk⟩:=hone_of hone j f hj
 have hjl:j < fs.size:=(Array.getElem?_eq_some_iff.1 hj).1
 have h1:=hf j f hj
 rw [ho,hk] at h1
 have hv:cs[j]? = some (cs[j]'(by omega)):=List.getElem?_eq_getElem (by omega)
 have hone':(cs.drop j).take 1 = [cs[j]'(by omega)]:=by
  rw [List.drop_eq_getElem_cons (by omega)]
  rfl
 rw [hone'] at h1
 have hys:ys[j]? = some (ys[j]'(by omega)):=List.getElem?_eq_getElem (by omega)
 exact ⟨_,_,hv,h1.trans hys⟩
theorem open_rows {α:Type} (f:α→List Value) (k:Nat) (hk:0 < k) (hf:∀ x,(f x).length = k) (Q:α→Prop) {H:Type} {enc:TypeId × Value→H} {P:Program} {W:World} {b0:Nat} {t e:TypeId}
  (ht:P.underlying t = some (.slice e)) (hC:P.cellsOf e = k) {spare:Nat→Bool} (hsp:∀ n,spare n = true)
  (hel:∀ n cs y,cs.length = k→DataW.trod enc P W 0 spare true n e cs = some y→∃ x,cs = f x∧Q x)
  {v:Value} {d:DataW H} {p:List MemPlace} (hval:Value.okWide P W .any b0 t v) (h:DataW.Trod enc P W 0 spare true t v d p) :
  ∃ xs:List α,Rd W k v xs.length (xs.flatMap f)∧(∀ x ∈ xs,Q x)∧xs.length≤maxLen:=by
 obtain ⟨a0,len,cap,rfl⟩:=okWide_slice ht hval
 obtain ⟨fuel,hfu⟩:=h
 rcases open_slice ht hfu with ⟨hcs,_⟩ | ⟨a,len',cap',m,n,D,Pl,hcs,_,hl,hm,hmm,_,hx⟩
 ·simp [Value.cells] at hcs
  obtain ⟨rfl,rfl,rfl⟩:=hcs
  exact ⟨[],Rd.nil _ _,fun x hx=>by simp at hx,Nat.zero_le _⟩
 ·simp [Value.cells] at hcs
  obtain ⟨rfl,rfl,rfl⟩:=hcs
  rw [hsp,if_pos rfl] at hmm
  subst hmm
  rw [hC] at hx
  have hex:∀ i,i < len→∃ x,(∀ j u,(f x)[j]? = some u→W.cell? ((a.add (i * k)).add j) = some u)∧Q x:=by
   intro i hi
   obtain ⟨cs',hc,ht'⟩:=hx i (by omega)
   obtain ⟨_,hcl,hat⟩:=World.cells?_some hc
   obtain ⟨x,rfl,hq⟩:=hel _ _ _ hcl ht'
   refine ⟨x,fun j u hu=>?_,hq⟩
   have hj:j < k:=by have:=(List.getElem?_eq_some_iff.1 hu).1;rw [hf] at this;exact this
   rw [hat j hj]
   exact hu
  have hall:∀ n',n'≤len→∃ xs:List α,xs.length = n'∧∀ i x,xs[i]? = some x→(∀ j u,(f x)[j]? = some u→W.cell? ((a.add (i * k)).add j) = some u)∧Q x:=by
   intro n'
   induction n' with
   | zero=>exact fun _=>⟨[],rfl,fun i x hx=>by simp at hx⟩
   | succ n' ih=>
    intro hn'
    obtain ⟨xs,hxl,hxs⟩:=ih (by omega)
    obtain ⟨x,hx1,hx2⟩:=hex n' (by omega)
    refine ⟨xs ++ [x],by simp [hxl],fun i y hy=>?_⟩
    by_cases hi:i < n'
    ·rw [List.getElem?_append_left (by omega)] at hy
     exact hxs i y hy
    ·rw [List.getElem?_append_right (by omega)] at hy
     have hi':i - xs.length = 0:=by
      have:=(List.getElem?_eq_some_iff.1 hy).1
      simp at this;omega
     rw [hi'] at hy
     simp at hy
     subst hy
     obtain rfl:i = n':=by omega
     exact ⟨hx1,hx2⟩
  obtain ⟨xs,hxl,hxs⟩:=hall len (Nat.le_refl _)
  refine ⟨xs,⟨flat_length f k hf xs,some a,_,by rw [hxl],by omega,hm,fun hn=>?_⟩,fun x hx=>?_,by rw [hxl];omega⟩
  ·obtain ⟨g,off,spot⟩:=a
   obtain ⟨x0,hx0⟩:∃ x0,xs[0]? = some x0:=⟨xs[0],List.getElem?_eq_getElem hn⟩
   have h00:=(hxs 0 x0 hx0).1
   obtain ⟨u0,hu0⟩:∃ u0,(f x0)[0]? = some u0:=⟨(f x0)[0]'(by rw [hf];exact hk),List.getElem?_eq_getElem _⟩
   have c0:=h00 0 u0 hu0
   have hs:spot = none:=by
    cases spot with
    | none=>rfl
    | some s=>
     simp only [Nat.zero_mul,Addr.add,if_true,World.cell?] at c0
     split at c0 <;> simp at c0
   subst hs
   have hg:g < W.heap.size:=by
    have:=World.block_lt_of_cell? W _ c0
    simpa [addr_add] using this
   refine ⟨g,off,rfl,hg,fun j u hu=>?_⟩
   have hjl:j < xs.length * k:=by have:=(List.getElem?_eq_some_iff.1 hu).1;rw [flat_length f k hf] at this;exact this
   have hq:j / k < xs.length:=(Nat.div_lt_iff_lt_mul hk).2 hjl
   have hr:j % k < k:=Nat.mod_lt _ hk
   have ej:j = j / k * k+j % k:=by rw [Nat.mul_comm];exact (Nat.div_add_mod j k).symm
   obtain ⟨x,hxx⟩:∃ x,xs[j / k]? = some x:=⟨xs[j / k],List.getElem?_eq_getElem hq⟩
   have:=(hxs _ x hxx).1 (j % k) u (by
    rw [ej,flat_at f k hf xs (j / k) (j % k) x hq hr] at hu
    rw [← hu]
    simp [List.getD,hxx])
   rw [addr_add,addr_add,Nat.add_assoc,← ej] at this
   exact this
  ·obtain ⟨i,hi,rfl⟩:=List.mem_iff_getElem.1 hx
   exact (hxs i _ (List.getElem?_eq_getElem hi)).2
end Go.Proofs.YtpcpaoeajcjoiaaGreatDoor.Kit
