/- Texts joined, what is not reached left out. -/
import Derived.Test.YtpcpaoeajcjoiaaGreatDoorQAsPlain
import Derived.Test.YtpcpaoeajcjoiaaGreatDoorKX
import Derived.Maps.OwnSet
import Derived.StringKeys
import Derived.Test.YtpcpaoeajcjoiaaGreatDoorMB
import Derived.Test.YtpcpaoeajcjoiaaGreatDoorMI
import Derived.Test.YtpcpaoeajcjoiaaGreatDoorMS
import Derived.Laws.MakeOwn
set_option linter.unusedVariables false
set_option linter.unusedSimpArgs false
namespace Go.Proofs.YtpcpaoeajcjoiaaGreatDoor
open Go.RowKit Kit Go.Maps
theorem As.law:Keyed Tryz.prog 9:=string_keyed Tryz.underlying9
theorem As.zeroE (w:World):(zeroValue 23).run Tryz.prog w = .ok (.int .u32 0) w:=by kernel_rfl
theorem As.look_any (sy:List (List UInt8 × Nat)) (s:List UInt8):(sy.any fun p=>p.1 == s) = (As.look sy s).isSome:=by
 unfold As.look
 induction sy with
 | nil=>rfl
 | cons p t ih=>
  rw [List.any_cons,List.find?_cons]
  cases h:p.1 == s
  ·simpa using ih
  ·rfl
theorem As.look_snoc (sy:List (List UInt8 × Nat)) (s t:List UInt8) (u:Nat):As.look (sy ++ [(s,u)]) t = (As.look sy t).or (if s = t then some u else none):=by
 unfold As.look
 rw [List.find?_append]
 cases sy.find? (fun p=>p.1 == t) with
 | some p=>rfl
 | none=>
  by_cases h:s = t
  ·subst h;simp
  ·have:(s == t) = false:=by simpa using h
   simp [this,h]
def As.MapIs (w:World) (b:Nat) (sy:List (List UInt8 × Nat)):Prop:=
 ∃ D:DataW Unit,w.ownsMap Tryz.prog 9 (plainElem Tryz.prog 23) b sy.length D∧∀ s,has D (.string s) = (As.look sy s).isSome∧∀ v,As.look sy s = some v→D.atKey (.string s) (.lit (.int .u32 0)) = .lit (.int .u32 (v:Int))
theorem As.MapIs.made (w:World):As.MapIs (w.alloc (.map #[] 0)) w.heap.size []:=⟨_,World.ownsMap_made w _ _ _,fun s=>⟨rfl,fun v h=>by cases h⟩⟩
theorem As.MapIs.lt {w:World} {b:Nat} {sy:List (List UInt8 × Nat)} (h:As.MapIs w b sy):b < w.heap.size:=by obtain ⟨D,h,_⟩:=h;exact h.lt
theorem As.MapIs.fr {F:Nat→Prop} {w w':World} {b:Nat} {sy:List (List UInt8 × Nat)} (h:As.MapIs w b sy) (hf:Fr F w w') (hn:¬ F b):As.MapIs w' b sy:=by
 have hlt:=h.lt
 obtain ⟨D,⟨es,clock,hb,r⟩,hD⟩:=h
 exact ⟨D,⟨es,clock,(hf.block b hlt hn).trans hb,r⟩,hD⟩
theorem As.MapIs.kept {w w':World} {b:Nat} {sy:List (List UInt8 × Nat)} (h:As.MapIs w b sy) (hb:Below w.heap.size w w'):As.MapIs w' b sy:=h.fr (F:=fun _=>False) (Fr.of_below hb) id
theorem As.MapIs.bk_ne {w:World} {b g:Nat} {sy:List (List UInt8 × Nat)} {t:TypeId} {cs:Array Value} (h:As.MapIs w b sy) (hk:Bk w g t cs):b ≠ g:=by
 obtain ⟨D,⟨es,clock,hb,r⟩,hD⟩:=h
 intro e
 subst e
 unfold Bk at hk
 rw [hk] at hb
 cases hb
theorem As.MapIs.own_ne {w:World} {b base n size:Nat} {e:TypeId} {v:Value} {xs:List Value} {sy:List (List UInt8 × Nat)} (h:As.MapIs w b sy) (ho:w.ownsRow base e size v n xs):v.ownBlock ≠ some b:=by
 intro hk
 rcases ho.2 with ⟨rfl,_⟩ | ⟨g,cap,cur,rfl,_,hh,_⟩
 ·cases hk
 ·simp [Value.ownBlock] at hk
  subst hk
  exact h.bk_ne (g:=g) hh rfl
theorem wpList_store_as {w:World} {ops:Array Oper} {rest:List Oper} {o:Oper} {a:Act} {Q:Exit→Act→World→Prop}
  (hg:o.guard = none) (m x v:Operand) (hop:o.op = Op.mapUpdate 99 m x v) (b:Nat) (sy:List (List UInt8 × Nat)) (hm:a.eval m = .map (some b)) (h:As.MapIs w b sy) (hn:sy.length < maxLen) (s:List UInt8) (hs:s.length≤maxLen) (hnew:As.look sy s = none) (hx:a.eval x = .string ⟨s.toArray⟩)
  (u:Nat) (hu:u < 4294967296) (hv:a.eval v = .int .u32 (u:Int))
  (hK:∀ w',As.MapIs w' b (sy ++ [(s,u)])→w.grownBy w' (some b)→wpList Tryz.prog ops Q rest (a.put o.dst undef) w'):wpList Tryz.prog ops Q (o :: rest) a w:=by
 obtain ⟨D,hown,hD⟩:=h
 have hmap:=hown.isMap
 have hkl:WideAt.IsKeyLit (.string s):=trivial
 refine wpList_mapUpdate_own w hg m x v _ hop 9 23 As.law Tryz.underlying99 _ b _ D hm hown hn _ _ (.string s) hx hv (WideMaps.keyOf_string_mk (s:=⟨s.toArray⟩) Tryz.underlying9 (by simpa [ByteArray.size] using hs)) _ [] (plainElem_int Tryz.underlying23 (by simp [Lit.wf,IntKind.min,IntKind.max,IntKind.signed,IntKind.bits];omega)) (fun w' h1 h2=>hK w' ⟨_,by rw [List.length_append];exact h1,fun t=>?_⟩ h2)
 rw [As.look_snoc]
 by_cases e:s = t
 ·subst e
  rw [hnew,if_pos rfl]
  exact ⟨has_put_same hmap hkl _,fun v hv=>by injection hv with hv;rw [← hv];exact atKey_put_same hmap hkl _ _⟩
 ·rw [if_neg e,Option.or_none]
  have hne:Lit.string t ≠ Lit.string s:=fun he=>e (by injection he with he;exact he.symm)
  rw [has_put_other hne,atKey_put_other hne]
  exact hD t
end Go.Proofs.YtpcpaoeajcjoiaaGreatDoor
namespace Go.Proofs.YtpcpaoeajcjoiaaGreatDoor
open Go.RowKit Kit
theorem As.own_but_ne {base g:Nat} {w w':World} {e:TypeId} {v:Value} {size n:Nat} {xs:List Value} (h:w.ownsRow base e size v n xs) (hne:v.ownBlock ≠ some g) (hb:But g w w'):w'.ownsRow base e size v n xs:=by
 obtain ⟨h1,h2⟩:=h
 refine ⟨h1,?_⟩
 rcases h2 with h2 | ⟨g',cap,cur,rfl,hb',hh,rest⟩
 ·exact .inl h2
 ·exact .inr ⟨g',cap,cur,rfl,hb',(hb.block (Array.getElem?_eq_some_iff.1 hh).1 (fun e=>hne (by simp [Value.ownBlock,e]))).trans hh,rest⟩
theorem asyt:RowTy Tryz.prog 27 97 2 24:=
 ⟨Tryz.underlying27,by
  have h:(Tryz.prog.info? 97).map (fun i=>(i.zero,i.size,i.bytes)) = some (some (.agg #[.string ByteArray.empty,.int .u32 0]),2,24):=by kernel_rfl
  obtain ⟨i,h1,h2,h3,h4⟩:=info_parts h
  exact ⟨i,_,h1,h2,h3,h4,by kernel_rfl⟩⟩
theorem abyt:RowTy Tryz.prog 26 5 1 1:=
 ⟨Tryz.underlying26,by
  have h:(Tryz.prog.info? 5).map (fun i=>(i.zero,i.size,i.bytes)) = some (some (.int .u8 0),1,1):=by kernel_rfl
  obtain ⟨i,h1,h2,h3,h4⟩:=info_parts h
  exact ⟨i,_,h1,h2,h3,h4,by kernel_rfl⟩⟩
def As.symC (sy:List (List UInt8 × Nat)):List Value:=sy.flatMap fun p=>[.string ⟨p.1.toArray⟩,.int .u32 (p.2:Int)]
theorem As.symC_snoc (sy:List (List UInt8 × Nat)) (p:List UInt8 × Nat):As.symC (sy ++ [p]) = As.symC sy ++ [.string ⟨p.1.toArray⟩,.int .u32 (p.2:Int)]:=by simp [As.symC]
structure As.Ms (B:Nat) (w:World) (gp:Nat) (vl:Value) (a:Nat) (bs:List UInt8) (sm sy:List (List UInt8 × Nat)):Prop where
 obj:∃ b vb vs,Bk w gp 101 #[vl,.int .u32 (a:Int),.map (some b),vb,vs]∧As.MapIs w b sm∧B≤b∧w.ownsRow B 5 1 vb bs.length (bv bs)∧w.ownsRow B 97 2 vs sy.length (As.symC sy)
 gp:B≤gp
 size:B≤w.heap.size
theorem As.Ms.kept {B:Nat} {w w':World} {gp:Nat} {vl:Value} {a:Nat} {bs:List UInt8} {sm sy:List (List UInt8 × Nat)} (h:As.Ms B w gp vl a bs sm sy) (hb:Below w.heap.size w w'):As.Ms B w' gp vl a bs sm sy:=by
 obtain ⟨b,vb,vs,h1,h2,h3,h4,h5⟩:=h.obj
 exact ⟨⟨b,vb,vs,h1.kept hb,h2.kept hb,h3,own_kept h4 hb,own_kept h5 hb⟩,h.gp,Nat.le_trans h.size hb.size⟩
structure As.MsSeen (w:World) (gp b:Nat) (vl vb vs:Value) (a:Nat):Prop where
 c0:w.cell? ⟨gp,0,none⟩ = some vl
 c1:w.cell? ⟨gp,1,none⟩ = some (.int .u32 (a:Int))
 c2:w.cell? ⟨gp,2,none⟩ = some (.map (some b))
 c3:w.cell? ⟨gp,3,none⟩ = some vb
 c4:w.cell? ⟨gp,4,none⟩ = some vs
 f:∀ i,w.frozen? ⟨gp,i,none⟩ = false
structure As.MsAt (B:Nat) (w:World) (gp b:Nat) (vl vb vs:Value) (a:Nat) (bs:List UInt8) (sm sy:List (List UInt8 × Nat)):Prop where
 bk:Bk w gp 101 #[vl,.int .u32 (a:Int),.map (some b),vb,vs]
 map:As.MapIs w b sm
 b:B≤b
 by_:w.ownsRow B 5 1 vb bs.length (bv bs)
 sy:w.ownsRow B 97 2 vs sy.length (As.symC sy)
 gp:B≤gp
 size:B≤w.heap.size
section
variable {B:Nat} {w w':World} {gp b:Nat} {vl vb vs:Value} {a:Nat} {bs:List UInt8} {sm sy:List (List UInt8 × Nat)}
theorem As.Ms.at (h:As.Ms B w gp vl a bs sm sy):∃ b vb vs,As.MsAt B w gp b vl vb vs a bs sm sy:=by
 obtain ⟨b,vb,vs,h1,h2,h3,h4,h5⟩:=h.obj
 exact ⟨b,vb,vs,h1,h2,h3,h4,h5,h.gp,h.size⟩
theorem As.MsAt.ms (h:As.MsAt B w gp b vl vb vs a bs sm sy):As.Ms B w gp vl a bs sm sy:=⟨⟨b,vb,vs,h.bk,h.map,h.b,h.by_,h.sy⟩,h.gp,h.size⟩
theorem As.MsAt.kept (h:As.MsAt B w gp b vl vb vs a bs sm sy) (hb:Below w.heap.size w w'):As.MsAt B w' gp b vl vb vs a bs sm sy:=
 ⟨h.bk.kept hb,h.map.kept hb,h.b,own_kept h.by_ hb,own_kept h.sy hb,h.gp,Nat.le_trans h.size hb.size⟩
theorem As.MsAt.seen (h:As.MsAt B w gp b vl vb vs a bs sm sy):As.MsSeen w gp b vl vb vs a:=⟨h.bk.cell 0,h.bk.cell 1,h.bk.cell 2,h.bk.cell 3,h.bk.cell 4,fun i=>h.bk.free i⟩
theorem As.MsAt.mapped (h:As.MsAt B w gp b vl vb vs a bs sm sy) {sm':List (List UInt8 × Nat)} (hm:As.MapIs w' b sm') (hg:w.grownBy w' (some b)):As.MsAt B w' gp b vl vb vs a bs sm' sy∧Fr (fun k=>k = b) w w':=by
 have hbut:But b w w':=hg
 exact ⟨⟨hbut.bk h.bk (fun e=>h.map.bk_ne h.bk e.symm),hm,h.b,As.own_but_ne h.by_ (h.map.own_ne h.by_) hbut,As.own_but_ne h.sy (h.map.own_ne h.sy) hbut,h.gp,Nat.le_trans h.size hbut.size⟩,Fr.of_but hbut rfl⟩
theorem As.MsAt.symroom (h:As.MsAt B w gp b vl vb vs a bs sm sy) (p:List UInt8 × Nat) :
  ∃ A c,vs = .slice A sy.length c∧(∀ W',Below w.heap.size w W'→W'.cell? ⟨gp,4,none⟩ = some (.slice A sy.length c)) ∧
   (w.alloc (.cells #[.string ⟨p.1.toArray⟩,.int .u32 (p.2:Int)] 97)).ownsRow B 97 2 (.slice A sy.length c) sy.length (As.symC sy) ∧
   Src Tryz.prog 2 27 (.slice (some ⟨w.heap.size,0,none⟩) 1 1) 1 [.string ⟨p.1.toArray⟩,.int .u32 (p.2:Int)] (w.alloc (.cells #[.string ⟨p.1.toArray⟩,.int .u32 (p.2:Int)] 97)) ∧
   B≤(w.alloc (.cells #[.string ⟨p.1.toArray⟩,.int .u32 (p.2:Int)] 97)).heap.size ∧
   ∀ v' w',w'.ownsRow B 97 2 v' (sy.length+1) (As.symC sy ++ [.string ⟨p.1.toArray⟩,.int .u32 (p.2:Int)])→(w.alloc (.cells #[.string ⟨p.1.toArray⟩,.int .u32 (p.2:Int)] 97)).grownBy w' (Value.slice A sy.length c).ownBlock →
    (∃ A' c',v' = .slice A' (sy.length+1) c')∧w'.cell? ⟨gp,4,none⟩ = some (.slice A sy.length c)∧w'.frozen? ⟨gp,4,none⟩ = false∧Hid (As.MsAt B (w'.setCell ⟨gp,4,none⟩ v') gp b vl vb v' a bs sm (sy ++ [p])∧Below B w (w'.setCell ⟨gp,4,none⟩ v')∧∀ g t cs,Bk w g t cs→t ≠ 101→t ≠ 97→Bk (w'.setCell ⟨gp,4,none⟩ v') g t cs):=by
 obtain ⟨A,c,rfl⟩:=(Rd.of_own h.sy).form
 have hal:Below w.heap.size w (w.alloc (.cells #[.string ⟨p.1.toArray⟩,.int .u32 (p.2:Int)] 97)):=(Below.refl _ _).alloc (Nat.le_refl _) _
 have ha:=h.kept hal
 refine ⟨A,c,rfl,fun W' hb'=>(h.bk.kept hb').cell 4,ha.sy,?_,ha.size,fun v' w' ho hg=>?_⟩
 ·have hn:=Rd.built (size:=2) (Bk.fresh w 97 #[.string ⟨p.1.toArray⟩,.int .u32 (p.2:Int)]) rfl
  have:=Rd.src asyt (by simpa using hn) (by simp [Value.oneCell'])
  simpa using this
 ·have hr:∀ k,some k = (Value.slice A sy.length c).ownBlock→B≤k:=fun k hk=>by
   rcases h.sy.2 with ⟨e,_⟩ | ⟨g,cap,cur,e,hB,_⟩
   ·rw [e] at hk;cases hk
   ·rw [e] at hk;simp [Value.ownBlock] at hk;subst hk;exact hB
  have hgk:Bk w' gp 101 _:=(hg.block gp ha.bk.lt (fun e=>own_bk_ne ha.sy ha.bk (by decide) e.symm)).trans ha.bk
  have hs:=But.setCell w' gp 4 v'
  have hmb:As.MapIs w' b sm:=ha.map.fr (F:=fun k=>some k = (Value.slice A sy.length c).ownBlock) (Fr.of_grown hg (fun k e=>e.symm)) (fun e=>ha.map.own_ne ha.sy e.symm)
  have hby:w'.ownsRow B 5 1 vb bs.length (bv bs):=(Fr.of_grown (F:=fun k=>some k = (Value.slice A sy.length c).ownBlock) hg (fun k e=>e.symm)).own ha.by_ (fun k hk e=>own_uniq ha.by_ ha.sy (by decide) hk e.symm)
  have hbk':=hgk.set 4 v'
  refine ⟨(Rd.of_own ho).form,hgk.cell 4,hgk.free 4,Lib.hid ⟨⟨by simpa using hbk',hmb.fr (F:=fun k=>k = gp) (Fr.of_but hs rfl) (fun e=>hmb.bk_ne hgk e),h.b,own_but hby hgk (by decide) hs,?_,h.gp,?_⟩,?_,fun g t cs hg1 t1 t2=>?_⟩⟩
  ·rw [As.symC_snoc,List.length_append]
   exact own_but ho hgk (by decide) hs
  ·have e:(w'.setCell ⟨gp,4,none⟩ v').heap.size = w'.heap.size:=by simp [World.setCell]
   rw [e];exact Nat.le_trans ha.size hg.size
  rotate_left
  ·have h1:=hg1.kept hal
   have h2:Bk w' g t cs:=(hg.block g h1.lt (fun e=>own_bk_ne ha.sy h1 t2 e.symm)).trans h1
   exact hs.bk h2 (h2.ne hgk t1)
  ·exact ((hal.mono h.size).trans ((Fr.of_grown (F:=fun k=>some k = (Value.slice A sy.length c).ownBlock) hg (fun k e=>e.symm)).below (fun k hk=>hr k hk) ha.size)).trans ((Fr.of_but (F:=fun k=>k = gp) hs rfl).below (fun k hk=>by rw [hk];exact h.gp) (Nat.le_trans ha.size hg.size))
theorem As.MsAt.byteroom (h:As.MsAt B w gp b vl vb vs a bs sm sy) {W:World} (hal:Below w.heap.size w W) (news:List UInt8) :
  ∃ A c,vb = .slice A bs.length c∧W.ownsRow B 5 1 (.slice A bs.length c) bs.length (bv bs)∧B≤W.heap.size ∧
   ∀ v' w',w'.ownsRow B 5 1 v' (bs.length+news.length) (bv bs ++ bv news)→W.grownBy w' (Value.slice A bs.length c).ownBlock→F8.Where (Value.slice A bs.length c) v' W.heap.size →
    (∃ A' c',v' = .slice A' (bs.length+news.length) c')∧w'.cell? ⟨gp,3,none⟩ = some (.slice A bs.length c)∧w'.frozen? ⟨gp,3,none⟩ = false∧Hid (As.MsAt B (w'.setCell ⟨gp,3,none⟩ v') gp b vl v' vs a (bs ++ news) sm sy∧Fr (fun k=>k = gp ∨ vb.ownBlock = some k) w (w'.setCell ⟨gp,3,none⟩ v')∧(∀ k,v'.ownBlock = some k→vb.ownBlock = some k ∨ w.heap.size≤k)∧Below B w (w'.setCell ⟨gp,3,none⟩ v')):=by
 obtain ⟨A,c,rfl⟩:=(Rd.of_own h.by_).form
 have ha:=h.kept hal
 refine ⟨A,c,rfl,ha.by_,ha.size,fun v' w' ho hg hv=>?_⟩
 have hr:∀ k,(Value.slice A bs.length c).ownBlock = some k→B≤k:=fun k hk=>by
  rcases h.by_.2 with ⟨e,_⟩ | ⟨g,cap,cur,e,hB,_⟩
  ·rw [e] at hk;cases hk
  ·rw [e] at hk;simp [Value.ownBlock] at hk;subst hk;exact hB
 have hgk:Bk w' gp 101 _:=(hg.block gp ha.bk.lt (fun e=>own_bk_ne ha.by_ ha.bk (by decide) e.symm)).trans ha.bk
 have hs:=But.setCell w' gp 3 v'
 have f1:Fr (fun k=>(Value.slice A bs.length c).ownBlock = some k) W w':=Fr.of_grown hg (fun k e=>e)
 have hmb:As.MapIs w' b sm:=ha.map.fr f1 (fun e=>ha.map.own_ne ha.by_ e)
 have hsy:w'.ownsRow B 97 2 vs sy.length (As.symC sy):=f1.own ha.sy (fun k hk e=>own_uniq ha.sy ha.by_ (by decide) hk e)
 have hbk':=hgk.set 3 v'
 have f2:Fr (fun k=>k = gp) w' (w'.setCell ⟨gp,3,none⟩ v'):=Fr.of_but hs rfl
 have hfr:Fr (fun k=>k = gp ∨ (Value.slice A bs.length c).ownBlock = some k) w (w'.setCell ⟨gp,3,none⟩ v'):=((Fr.of_below hal).trans (f1.mono fun k e=>.inr e) (fun k e=>.inl e)).trans f2 (fun k e=>.inl (.inl e))
 refine ⟨(Rd.of_own ho).form,hgk.cell 3,hgk.free 3,Lib.hid ⟨⟨by simpa using hbk',hmb.fr f2 (fun e=>hmb.bk_ne hgk e),h.b,?_,own_but hsy hgk (by decide) hs,h.gp,?_⟩,hfr,fun k hk=>(hv k hk).imp id (fun e=>Nat.le_trans hal.size e),?_⟩⟩
 ·rw [bv_append,List.length_append]
  exact own_but ho hgk (by decide) hs
 ·have e:(w'.setCell ⟨gp,3,none⟩ v').heap.size = w'.heap.size:=by simp [World.setCell]
  rw [e];exact Nat.le_trans ha.size hg.size
 ·exact hfr.below (fun k hk=>hk.elim (fun e=>e ▸ h.gp) (hr k)) h.size
end
theorem As.Rb.fresh {F:Nat→Prop} {w:World} {gx:Nat} {x:As.L} (h:As.Mk F w gx x) (b:List UInt8) (hb:b.length≤maxLen) :
  As.Rb F (w.alloc (.cells (bv b).toArray 5)) (.slice (some ⟨w.heap.size,0,none⟩) b.length b.length) b∧As.Hi gx (.slice (some ⟨w.heap.size,0,none⟩) b.length b.length):=by
 have hbk:=Bk.fresh w 5 (bv b).toArray
 refine ⟨⟨⟨by rw [bv_length,Nat.mul_one],some ⟨w.heap.size,0,none⟩,b.length,rfl,Nat.le_refl _,hb,fun _=>⟨_,0,rfl,hbk.lt,fun j u hu=>?_⟩⟩,fun g off n c e hn hg=>?_⟩,fun g off n c e hn=>?_⟩
 ·rw [Nat.zero_add,hbk.cell j];simpa using hu
 ·injection e with e _ _
  injection e with e
  injection e with e _
  have:=h.lt g hg
  omega
 ·injection e with e _ _
  injection e with e
  injection e with e _
  have:=h.lt gx h.gx
  omega
theorem As.four_int {F:Nat→Prop} {w:World} {gx:Nat} {x:As.L} (h:As.Mk F w gx x) (n:Int) (hn:0≤n) (hn2:n < 4294967296) :
  Calls Tryz.prog 142 #[.int .u32 n] w fun e w'=>∃ g,e = .returned (.slice (some ⟨g,0,none⟩) 4 4)∧As.Rb F w' (.slice (some ⟨g,0,none⟩) 4 4) (As.four n.toNat)∧As.Hi gx (.slice (some ⟨g,0,none⟩) 4 4)∧Below w.heap.size w w':=by
 have hc:=afour_any n.toNat w (by omega)
 rw [show ((n.toNat:Nat):Int) = n by omega] at hc
 refine hc.mono ?_
 rintro e w' ⟨rfl,rfl⟩
 have hr:=As.Rb.fresh h (As.four n.toNat) (by unfold maxLen;simp [As.four])
 exact ⟨_,rfl,hr.1,hr.2,(Below.refl _ _).alloc (Nat.le_refl _) _⟩
def As.meas (gx:Nat) (f:Value) (wr:World):Nat:=(match f with | .bool true=>1 | _=>0)+(match wr.cell? ⟨gx,0,none⟩ with | some (.slice _ n _)=>n | _=>0)
theorem As.meas_is {G:Nat→Prop} {W:World} {gx:Nat} {y:As.L} (h:As.Mk G W gx y) (b:Bool):As.meas gx (.bool b) W = (if b = true then 1 else 0)+y.l.length:=by
 obtain ⟨vl,hs⟩:=h.seen
 obtain ⟨A,c,rfl⟩:=Rd.form hs.rd
 unfold As.meas
 rw [hs.c0]
 cases b <;> rfl
def As.Now (f:As.L→As.L) (x:As.L) (b:Bool) (y:As.L):Prop:=if b = true then y = x else As.more f y = As.loop f (x.l.length+1) x
def As.B1 (b:Bool) (y:As.L):Prop:=b = true ∨ y.l ≠ []
theorem As.Now.next {f:As.L→As.L} (hf:∀ x,(f x).l = x.l.tail) {x:As.L} {b:Bool} {y:As.L} (h:As.Now f x b y) (hb:As.B1 b y):As.Now f x false (f y):=by
 unfold As.Now at h ⊢
 unfold As.B1 at hb
 rw [if_neg (by decide)]
 cases b
 ·rw [if_neg (by decide)] at h
  rcases hb with hb | hb
  ·cases hb
  ·rw [← As.more_some hf hb];exact h
 ·rw [if_pos rfl] at h
  subst h
  exact (As.loop_more hf _).symm
theorem As.Now.done {f:As.L→As.L} {x y:As.L} (h:As.Now f x false y) (hy:y.l = []):y = As.loop f (x.l.length+1) x:=by
 unfold As.Now at h
 rw [if_neg (by decide),As.more_nil hy] at h
 exact h
end Go.Proofs.YtpcpaoeajcjoiaaGreatDoor
