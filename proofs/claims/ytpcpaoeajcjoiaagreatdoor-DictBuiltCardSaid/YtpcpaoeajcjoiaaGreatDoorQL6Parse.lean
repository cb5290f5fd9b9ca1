/- Texts joined, what is not reached left out. -/
import Derived.Test.YtpcpaoeajcjoiaaGreatDoorKO
set_option linter.unusedVariables false
set_option linter.unusedSimpArgs false
namespace Go.Proofs.YtpcpaoeajcjoiaaGreatDoor
open Go.RowKit Go.Shelf Kit
attribute [local go_sem] Oper.semAt_some
def ParsePost (w:World) (s:List UInt8) (e:Ending) (w':World):Prop:=
 ∃ v,e = .returned (.tuple #[v,.int .i64 ((L6.parse s).2.1:Nat),.int .i64 ((L6.parse s).2.2:Nat)])∧OwnL w.heap.size w' v (L6.parse s).1∧Below w.heap.size w w'
theorem Below.put {B:Nat} {a w:World} (h:Below B a w) (g:Nat) (o:Obj) (hg:B≤g):Below B a (w.putObj g o):=
 ⟨h.os,h.tape,h.output,by rw [World.putObj_size];exact h.size,fun k hk=>(World.putObj_heap_other (by omega)).trans (h.block k hk)⟩
structure ResAt (h:Nat) (v:Value) (i c:Nat) (X:World):Prop where
 b0:Bk X h 33 #[v]
 b1:Bk X (h+1) 3 #[.int .i64 (i:Int)]
 b2:Bk X (h+2) 30 #[.int .i64 (c:Int)]
theorem ResAt.same {h i c:Nat} {v:Value} {X X':World} (r:ResAt h v i c X) (hk:∀ g,h≤g→g < h+3→X'.heap[g]? = X.heap[g]?):ResAt h v i c X':=
 ⟨(hk _ (by omega) (by omega)).trans r.b0,(hk _ (by omega) (by omega)).trans r.b1,(hk _ (by omega) (by omega)).trans r.b2⟩
def put3 (X:World) (h:Nat) (v a b:Value):World:=((X.setCell ⟨h,0,none⟩ v).setCell ⟨h+1,0,none⟩ a).setCell ⟨h+1+1,0,none⟩ b
theorem put3_other (X:World) (h:Nat) (v a b:Value) (g:Nat) (hg:g < h ∨ h+3≤g):(put3 X h v a b).heap[g]? = X.heap[g]?:=
 ((Below.heap_setCell _ _ _ _ (by show g ≠ h+1+1;omega)).trans (Below.heap_setCell _ _ _ _ (by show g ≠ h+1;omega))).trans (Below.heap_setCell _ _ _ _ (by show g ≠ h;omega))
theorem put3_size (X:World) (h:Nat) (v a b:Value):(put3 X h v a b).heap.size = X.heap.size:=by simp [put3,World.setCell]
theorem put3_below {X w:World} {h:Nat} {v a b:Value} (hb:Below h w X):Below h w (put3 X h v a b):=((hb.setCell (Nat.le_refl _) _).setCell (by simp) _).setCell (by simp;omega) _
theorem ResAt.put3 {h i c i' c':Nat} {v v':Value} {X:World} (r:ResAt h v i c X):ResAt h v' i' c' (put3 X h v' (.int .i64 (i':Int)) (.int .i64 (c':Int))):=by
 refine ⟨?_,?_,?_⟩
 ·have h1:=r.b0.set 0 v'
  have h2:=(But.setCell _ (h+1+1) 0 (.int .i64 (c':Int))).bk ((But.setCell _ (h+1) 0 (.int .i64 (i':Int))).bk h1 (by omega)) (by omega)
  unfold Bk at h2 ⊢
  unfold Go.Proofs.YtpcpaoeajcjoiaaGreatDoor.put3
  simpa using h2
 ·have h0:=(But.setCell X h 0 v').bk r.b1 (by omega)
  have h1:=h0.set 0 (.int .i64 (i':Int))
  have h2:=(But.setCell _ (h+1+1) 0 (.int .i64 (c':Int))).bk h1 (by omega)
  unfold Bk at h2 ⊢
  unfold Go.Proofs.YtpcpaoeajcjoiaaGreatDoor.put3
  simpa using h2
 ·have h0:=(But.setCell _ (h+1) 0 (.int .i64 (i':Int))).bk ((But.setCell X h 0 v').bk r.b2 (by omega)) (by omega)
  have h2:Bk ((((X.setCell ⟨h,0,none⟩ v').setCell ⟨h+1,0,none⟩ (.int .i64 (i':Int))).setCell ⟨h+1+1,0,none⟩ (.int .i64 (c':Int)))) (h+1+1) 30 _:=h0.set 0 (.int .i64 (c':Int))
  unfold Bk at h2 ⊢
  unfold Go.Proofs.YtpcpaoeajcjoiaaGreatDoor.put3
  simpa using h2
theorem parse_results {h i c:Nat} {v:Value} {X:World} (r:ResAt h v i c X) {t:Array Value} (h2:t[2]? = some (.pointer (some ⟨h,0,none⟩))) (h3:t[3]? = some (.pointer (some ⟨h+1,0,none⟩))) (h4:t[4]? = some (.pointer (some ⟨h+1+1,0,none⟩))) :
  (results Tryz.f50 t).run Tryz.prog X = .ok (.tuple #[v,.int .i64 (i:Int),.int .i64 (c:Int)]) X:=by
 have k0:X.cell? ⟨h,0,none⟩ = some v:=r.b0.cell 0
 have k1:X.cell? ⟨h+1,0,none⟩ = some (.int .i64 (i:Int)):=r.b1.cell 0
 have k2:X.cell? ⟨h+1+1,0,none⟩ = some (.int .i64 (c:Int)):=r.b2.cell 0
 simp [results,Tryz.f50,go_sem,h2,h3,h4,k0,k1,k2]
structure PA (s0:List UInt8) (w:World) (rec:LoopState→Option Code→Loop) (st:LoopState) (k:Nat) (s:List UInt8) (X:World):Prop where
 out:∃ ls v,Bk X (w.heap.size+3) 33 #[v]∧OwnL (w.heap.size+12) X v ls∧ls.length = k∧L6.parseL 0 [] (L6.split s0) = L6.parseL k ls (L6.split s)
 num:k+(L6.split s).length = (L6.split s0).length
 slen:s.length≤s0.length
 res:ResAt w.heap.size (.slice none 0 0) 0 0 X
 db:X.heap[w.heap.size+5]? = some (.deferred (some []))
 rb:X.heap[w.heap.size+6]? = some (.loop (rec st none))
 below:Below w.heap.size w X
structure PX (s0:List UInt8) (w:World) (rec:LoopState→Option Code→Loop) (X:World):Prop where
 res:∃ i c,ResAt w.heap.size (.slice none 0 0) i c X∧L6.parseL 0 [] (L6.split s0) = ([],i,c)
 db:X.heap[w.heap.size+5]? = some (.deferred (some []))
 rb:X.heap[w.heap.size+6]? = some (.loop (rec .done (some .ret)))
 below:Below w.heap.size w X
theorem PA.mid {s0:List UInt8} {w:World} {rec:LoopState→Option Code→Loop} {st:LoopState} {k:Nat} {s:List UInt8} {X X':World} (h:PA s0 w rec st k s X) (hm:Mid (w.heap.size+7) (w.heap.size+7+5) X X'):PA s0 w rec st k s X':=by
 obtain ⟨⟨ls,v,h1,h2,h3,h4⟩,hn,hs,hr,hd,hb,hw⟩:=h
 refine ⟨⟨ls,v,(hm.block _ (by omega)).trans h1,h2.up (fun g hg _=>hm.block g (by omega)),h3,h4⟩,hn,hs,hr.same (fun g _ _=>hm.block g (by omega)),(hm.block _ (by omega)).trans hd,(hm.block _ (by omega)).trans hb,?_⟩
 exact hw.trans ⟨hm.os,hm.tape,hm.output,Nat.le_of_eq hm.size.symm,fun g hg=>hm.block g (by omega)⟩
theorem PX.mid {s0:List UInt8} {w:World} {rec:LoopState→Option Code→Loop} {X X':World} (h:PX s0 w rec X) (hm:Mid (w.heap.size+7) (w.heap.size+7+5) X X'):PX s0 w rec X':=by
 obtain ⟨⟨i,c,hr,hp⟩,hd,hb,hw⟩:=h
 refine ⟨⟨i,c,hr.same (fun g _ _=>hm.block g (by omega)),hp⟩,(hm.block _ (by omega)).trans hd,(hm.block _ (by omega)).trans hb,?_⟩
 exact hw.trans ⟨hm.os,hm.tape,hm.output,Nat.le_of_eq hm.size.symm,fun g hg=>hm.block g (by omega)⟩
theorem PA.busy {s0:List UInt8} {w:World} {rec:LoopState→Option Code→Loop} {st st':LoopState} {k:Nat} {s:List UInt8} {X:World} (h:PA s0 w rec st k s X):PA s0 w rec st' k s (X.putObj (w.heap.size+6) (.loop (rec st' none))):=by
 obtain ⟨⟨ls,v,h1,h2,h3,h4⟩,hn,hs,hr,hd,hb,hw⟩:=h
 exact ⟨⟨ls,v,h1.put _ (by omega),h2.up (fun g hg _=>World.putObj_heap_other (by omega)),h3,h4⟩,hn,hs,hr.same (fun g _ _=>World.putObj_heap_other (by omega)),(World.putObj_heap_other (by omega)).trans hd,
  World.putObj_heap_same (Array.getElem?_eq_some_iff.1 hb).1,Below.put hw _ _ (by omega)⟩
theorem PA.kept {s0:List UInt8} {w:World} {rec:LoopState→Option Code→Loop} {st:LoopState} {k:Nat} {s:List UInt8} {X X':World} (h:PA s0 w rec st k s X) (hb:Below X.heap.size X X'):PA s0 w rec st k s X':=by
 have hz:=(Array.getElem?_eq_some_iff.1 h.rb).1
 obtain ⟨⟨ls,v,h1,h2,h3,h4⟩,hn,hs,hr,hd,hr',hw⟩:=h
 exact ⟨⟨ls,v,h1.kept hb,h2.kept hb,h3,h4⟩,hn,hs,hr.same (fun g _ _=>hb.block g (by omega)),(hb.block _ (by omega)).trans hd,(hb.block _ hz).trans hr',hw.trans (hb.mono hw.size)⟩
def YPost (s0:List UInt8) (w:World) (rec:LoopState→Option Code→Loop) (k:Nat) (s:List UInt8) (X:World) (e:Ending) (X':World):Prop:=
 ∃ b,e = .returned (.bool b)∧(∀ i,w.heap.size+7≤i→i < w.heap.size+7+5→X'.heap[i]? = X.heap[i]?)∧X.heap.size≤X'.heap.size∧(if b = true then PA s0 w rec .ready k s X' else PX s0 w rec X')
theorem parse_stop {s0:List UInt8} {w:World} {rec:LoopState→Option Code→Loop} {k:Nat} {s:List UInt8} {X Z:World} {J:World→Prop} {c:Nat} (h:PA s0 w rec .busy k s Z)
  (hp:L6.parseL 0 [] (L6.split s0) = ([],k+1,c)) (hk:∀ g,w.heap.size+7≤g→g < w.heap.size+7+5→Z.heap[g]? = X.heap[g]?) (hz:X.heap.size≤Z.heap.size) (i' c':Value) (hi:i' = .int .i64 ((k:Int)+1)) (hc:c' = .int .i64 (c:Int)) :
  (put3 Z w.heap.size (.slice none 0 0) i' c').heap[w.heap.size+6]? = some (.loop (rec .busy none)) ∧
   ∃ b,Ending.returned (.bool false) = .returned (.bool b)∧(∀ g,w.heap.size+7≤g→g < w.heap.size+7+5→((put3 Z w.heap.size (.slice none 0 0) i' c').putObj (w.heap.size+6) (.loop (rec .done (some .ret)))).heap[g]? = X.heap[g]?) ∧
    X.heap.size≤((put3 Z w.heap.size (.slice none 0 0) i' c').putObj (w.heap.size+6) (.loop (rec .done (some .ret)))).heap.size∧(if b = true then J ((put3 Z w.heap.size (.slice none 0 0) i' c').putObj (w.heap.size+6) (.loop (rec .done (some .ret)))) else PX s0 w rec ((put3 Z w.heap.size (.slice none 0 0) i' c').putObj (w.heap.size+6) (.loop (rec .done (some .ret))))):=by
 subst hi hc
 have hb:(put3 Z w.heap.size (.slice none 0 0) (.int .i64 ((k:Int)+1)) (.int .i64 (c:Int))).heap[w.heap.size+6]? = some (.loop (rec .busy none)):=(put3_other _ _ _ _ _ _ (by omega)).trans h.rb
 have hr:ResAt w.heap.size (.slice none 0 0) (k+1) c (put3 Z w.heap.size (.slice none 0 0) (.int .i64 ((k:Int)+1)) (.int .i64 (c:Int))):=h.res.put3
 refine ⟨hb,false,rfl,fun g h1 h2=>?_,?_,?_⟩
 ·exact ((World.putObj_heap_other (by omega)).trans (put3_other _ _ _ _ _ _ (by omega))).trans (hk g h1 h2)
 ·rw [World.putObj_size,put3_size];exact hz
 ·rw [if_neg (by decide)]
  exact ⟨⟨k+1,c,hr.same (fun g _ _=>World.putObj_heap_other (by omega)),hp⟩,((World.putObj_heap_other (by omega)).trans (put3_other _ _ _ _ _ _ (by omega))).trans h.db,World.putObj_heap_same (Array.getElem?_eq_some_iff.1 hb).1,
   Below.put (put3_below h.below) _ _ (by omega)⟩
theorem ownBlock_ge {w:World} {base:Nat} {t:TypeId} {size:Nat} {v:Value} {n:Nat} {xs:List Value} (h:w.ownsRow base t size v n xs) {g:Nat} (hv:v.ownBlock = some g):base≤g:=by
 rcases h.2 with ⟨rfl,_⟩ | ⟨g',cap,cur,rfl,hb,_⟩
 ·simp [Value.ownBlock] at hv
 ·simp [Value.ownBlock] at hv;omega
theorem one3 {a b:Nat} {w:World} {vl va:Value} {x y:List (List UInt8)} {u:ByteArray} (h1:OwnS a w vl x) (h2:OwnS b w va y):∀ z ∈ [vl,.string u,va],z.oneCell' = true:=by
 obtain ⟨A1,c1,rfl⟩:=h1.form
 obtain ⟨A2,c2,rfl⟩:=h2.form
 intro z hz
 simp only [List.mem_cons,List.not_mem_nil,or_false] at hz
 rcases hz with rfl | rfl | rfl <;> rfl
theorem parse_round {s0:List UInt8} {w:World} {rec:LoopState→Option Code→Loop} {k:Nat} {s sl:List UInt8} {X Z w4 w6:World} {v vl va v6:Value} {ls:List L6.Line} {x:L6.Line} {cs:List Value} (h:PA s0 w rec .busy k s Z)
  (ho:Bk Z (w.heap.size+3) 33 #[v]) (hcs:LinesV (w.heap.size+12) Z ls cs) (hown:Z.ownsRow (w.heap.size+12) 105 3 v ls.length cs) (hk:ls.length = k)
  (hz:w.heap.size+12≤Z.heap.size) (hb4:Below Z.heap.size Z w4) (hl4:OwnS Z.heap.size w4 vl x.labels) (ha4:OwnS Z.heap.size w4 va x.args)
  (ho6:w6.ownsRow (w.heap.size+12) 105 3 v6 (ls.length+1) (cs ++ [vl,.string ⟨x.word.toArray⟩,va])) (hg6:(w4.alloc (.cells #[vl,.string ⟨x.word.toArray⟩,va] 105)).grownBy w6 v.ownBlock)
  (hp:L6.parseL 0 [] (L6.split s0) = L6.parseL (k+1) (ls ++ [x]) (L6.split sl)) (hnum:(L6.split s).length = (L6.split sl).length+1) (hslen:sl.length≤s.length)
  (hkX:∀ g,w.heap.size+7≤g→g < w.heap.size+7+5→Z.heap[g]? = X.heap[g]?) (hzX:X.heap.size≤Z.heap.size) :
  (w6.setCell ⟨w.heap.size+3,0,none⟩ v6).heap[w.heap.size+6]? = some (.loop (rec .busy none)) ∧
   YPost s0 w rec (k+1) sl X (.returned (.bool true)) ((w6.setCell ⟨w.heap.size+3,0,none⟩ v6).putObj (w.heap.size+6) (.loop (rec .ready none))):=by
 have hb5:Below Z.heap.size Z (w4.alloc (.cells #[vl,.string ⟨x.word.toArray⟩,va] 105)):=hb4.alloc hb4.size _
 have hown5:(w4.alloc (.cells #[vl,.string ⟨x.word.toArray⟩,va] 105)).ownsRow (w.heap.size+12) 105 3 v ls.length cs:=own_kept hown hb5
 have hb45:Below w4.heap.size w4 (w4.alloc (.cells #[vl,.string ⟨x.word.toArray⟩,va] 105)):=(Below.refl _ _).alloc (Nat.le_refl _) _
 have hL6:OwnL (w.heap.size+12) w6 v6 (ls ++ [x]):=OwnL.grown hcs hown5 hb5 ((hl4.rebase hz).kept hb45) ((ha4.rebase hz).kept hb45) ho6 hg6
 have hsame:∀ g,g < w.heap.size+12→w6.heap[g]? = Z.heap[g]?:=fun g hg=>
  (hg6.block g (by have:=hb5.size;omega) (fun e=>by have:=ownBlock_ge hown5 e.symm;omega)).trans (hb5.block g (by omega))
 have hz6:Z.heap.size≤w6.heap.size:=Nat.le_trans hb5.size hg6.size
 have hf:∀ g,g < w.heap.size+12→g ≠ w.heap.size+3→g ≠ w.heap.size+6→((w6.setCell ⟨w.heap.size+3,0,none⟩ v6).putObj (w.heap.size+6) (.loop (rec .ready none))).heap[g]? = Z.heap[g]?:=fun g h1 h2 h3=>
  ((World.putObj_heap_other h3).trans (Below.heap_setCell _ _ _ _ h2)).trans (hsame g h1)
 have hbusy:(w6.setCell ⟨w.heap.size+3,0,none⟩ v6).heap[w.heap.size+6]? = some (.loop (rec .busy none)):=((Below.heap_setCell _ _ _ _ (by show w.heap.size+6 ≠ w.heap.size+3;omega)).trans (hsame _ (by omega))).trans h.rb
 refine ⟨hbusy,true,rfl,fun g h1 h2=>(hf g (by omega) (by omega) (by omega)).trans (hkX g h1 h2),?_,?_⟩
 ·rw [World.putObj_size]
  have e:(w6.setCell ⟨w.heap.size+3,0,none⟩ v6).heap.size = w6.heap.size:=by simp [World.setCell]
  omega
 ·rw [if_pos rfl]
  have ho6':Bk w6 (w.heap.size+3) 33 #[v]:=(hsame _ (by omega)).trans ho
  have ho7:Bk (w6.setCell ⟨w.heap.size+3,0,none⟩ v6) (w.heap.size+3) 33 #[v6]:=by
   have:=ho6'.set 0 v6
   simpa using this
  have hn:=h.num
  have hs:=h.slen
  refine ⟨⟨ls ++ [x],v6,ho7.put _ (by omega),?_,by simp [hk],hp⟩,by omega,by omega,h.res.same (fun g h1 h2=>hf g (by omega) (by omega) (by omega)),(hf _ (by omega) (by omega) (by omega)).trans h.db,World.putObj_heap_same (Array.getElem?_eq_some_iff.1 hbusy).1,?_⟩
  ·exact hL6.up (fun g hg _=>(World.putObj_heap_other (by omega)).trans (Below.heap_setCell _ _ _ _ (by show g ≠ w.heap.size+3;omega)))
  ·have e1:Below w.heap.size w (w4.alloc (.cells #[vl,.string ⟨x.word.toArray⟩,va] 105)):=h.below.trans (hb5.mono (by omega))
   have e2:Below w.heap.size w w6:=e1.grown hg6 (by have:=hb5.size;omega) (fun g e=>by have:=ownBlock_ge hown5 e;omega)
   exact Below.put (e2.setCell (by simp) _) _ _ (by omega)
set_option maxRecDepth 100000 in
set_option maxHeartbeats 2000000 in
theorem lparse_any (s:List UInt8) (w:World) (hs:s.length≤1000000000):Calls Tryz.prog 50 #[.string ⟨s.toArray⟩] w (ParsePost w s):=by
 refine (callsIn_wide (n:=20)).1 ?_
 refine callsIn_of_wp_marks Tryz.func50 rfl trivial ?_ rfl
 simp only [Tryz.ntmps50,List.size_toArray,List.length_cons,List.length_nil,Nat.reduceAdd,Nat.reduceSub,Array.replicate_succ,Array.replicate_zero,List.push_toArray,List.append_toArray,List.nil_append,List.cons_append]
 have HS:=Lib.hid hs
 clear hs
 have mixed:Tryz.prog.follows .mixedOrders = true:=by kernel_rfl
 have CC:=Lib.hid (fun Z=>Tryz.strings_Count_one ⟨s.toArray⟩ 10 Z)
 have CS:=Lib.hid (fun Z=>Tryz.strings_HasSuffix ⟨s.toArray⟩ ⟨#[10]⟩ Z (by have:=HS.out;simp [ByteArray.size];omega))
 gi_upto_region 2 with (refine ⟨trivial,?_⟩;gi_at_call 97;refine (callsIn_wide.2 (CC.out _)).mono ?_;rintro e w' ⟨rfl,rfl⟩)
 have HE:=Lib.hid (show (s.isEmpty = true ↔ s = []) from by cases s <;> simp)
 gi_cut [19] from 11 (fun b wx=>b = .bool (!s.isEmpty && !(s.getLastD 0 == 10))∧wx = ((w.alloc (.cells #[.slice none 0 0] 33)).alloc (.cells #[.int .i64 0] 3)).alloc (.cells #[.int .i64 0] 30))
 case first=>
  have HSU:=Lib.hid (show Lib.hasSuffix s [10] = (!s.isEmpty && s.getLastD 0 == 10) from L6.suffix_one s 10)
  cases s with
  | nil=>
   gi_wp2_with fail
   refine ⟨trivial,?_⟩
   gi_wp2_with fail
   gi_meet
   case rel=>exact ⟨rfl,rfl⟩
  | cons c t=>
   gi_wp2_with (refine ⟨trivial,?_⟩;gi_at_call 98;refine (callsIn_wide.2 (CS.out _)).mono ?_;rintro e w' ⟨rfl,rfl⟩)
   gi_meet
   case rel=>exact ⟨by have:=HSU.out;simp only [List.isEmpty_cons,Bool.not_false,Bool.true_and] at this ⊢;rw [this],rfl⟩
 case rest=>
  clear HE CS
  obtain ⟨rfl,rfl⟩:=hcut
  gi_upto_if 19 with fail
  gi_cut [5] from 11 (fun n wx=>n = .int .i64 ((L6.split s).length:Int)∧wx = ((w.alloc (.cells #[.slice none 0 0] 33)).alloc (.cells #[.int .i64 0] 3)).alloc (.cells #[.int .i64 0] 30))
  case first=>
   have hsl:=L6.split_len s
   have hcl:s.count 10≤1000000000:=Nat.le_trans List.count_le_length HS.out
   cases hb:(!s.isEmpty && !(s.getLastD 0 == 10))
   ·rw [hb] at hsl
    simp only [Bool.false_eq_true,if_false,Nat.add_zero] at hsl
    have HSL:=Lib.hid hsl
    clear hsl
    gi_wp2
    gi_meet
    case rel=>exact ⟨by rw [HSL.out];rfl,rfl⟩
   ·rw [hb] at hsl
    simp only [if_true] at hsl
    have HSL:=Lib.hid hsl
    clear hsl
    have hw:IntKind.i64.wrap ((Lib.countByte s 10:Int)+1) = (Lib.countByte s 10:Int)+1:=by unfold Lib.countByte;generalize s.count 10 = m at hcl ⊢;go_bits;exact trivial
    gi_wp2
    gi_meet
    case rel=>exact ⟨by rw [HSL.out];rfl,rfl⟩
  case rest=>
   obtain ⟨rfl,rfl⟩:=hcut
   clear CC
   have b0:=(Bk.fresh w 33 #[.slice none 0 0]).kept (((Below.refl _ _).alloc (Nat.le_refl _) (.cells #[.int .i64 0] 3)).alloc (by simp) (.cells #[.int .i64 0] 30))
   have b1:=(Bk.fresh (w.alloc (.cells #[.slice none 0 0] 33)) 3 #[.int .i64 0]).kept ((Below.refl _ _).alloc (Nat.le_refl _) (.cells #[.int .i64 0] 30))
   have b2:=Bk.fresh ((w.alloc (.cells #[.slice none 0 0] 33)).alloc (.cells #[.int .i64 0] 3)) 30 #[.int .i64 0]
   have bw:Below w.heap.size w (((w.alloc (.cells #[.slice none 0 0] 33)).alloc (.cells #[.int .i64 0] 3)).alloc (.cells #[.int .i64 0] 30)):=(((Below.refl _ _).alloc (Nat.le_refl _) _).alloc (by simp) _).alloc (by simp;omega) _
   have bz:(((w.alloc (.cells #[.slice none 0 0] 33)).alloc (.cells #[.int .i64 0] 3)).alloc (.cells #[.int .i64 0] 30)).heap.size = w.heap.size+3:=by simp
   simp only [World.size_alloc] at b1 b2
   generalize ((w.alloc (.cells #[.slice none 0 0] 33)).alloc (.cells #[.int .i64 0] 3)).alloc (.cells #[.int .i64 0] 30) = w3 at b0 b1 b2 bw bz ⊢
   by_cases hlim:32768 < (L6.split s).length
   ·have hlim':(32768:Int) < (L6.split s).length:=by omega
    have HP:=Lib.hid (show L6.parse s = ([],0,6) from by unfold L6.parse;rw [if_pos hlim])
    clear hlim
    have k0:=b0.cell 0
    have f0:=b0.free 0
    have k1:=b1.cell 0
    have f1:=b1.free 0
    have k2:=b2.cell 0
    have f2:=b2.free 0
    gi_wp2
    have hr:ResAt w.heap.size (.slice none 0 0) 0 6 (put3 w3 w.heap.size (.slice none 0 0) (.int .i64 ((0:Nat):Int)) (.int .i64 ((6:Nat):Int))):=(ResAt.mk (i:=0) (c:=0) b0 b1 b2).put3
    have hbf:Below w.heap.size w (put3 w3 w.heap.size (.slice none 0 0) (.int .i64 ((0:Nat):Int)) (.int .i64 ((6:Nat):Int))):=put3_below bw
    unfold put3 at hr hbf
    exact ⟨_,parse_results hr rfl rfl rfl,.slice none 0 0,by rw [HP.out],by rw [HP.out];exact OwnL.nil _ _,hbf⟩
   ·have hlim':((L6.split s).length:Int)≤32768:=by omega
    have HP:=Lib.hid (show L6.parse s = L6.parseL 0 [] (L6.split s) from by unfold L6.parse;rw [if_neg hlim])
    have HLIM:=Lib.hid (show (L6.split s).length≤32768 from by omega)
    clear hlim
    gi_wp2_with (refine ⟨trivial,?_⟩;gi_at_call 99;refine (cut_in _ s _).mono ?_;rintro e w' ⟨rfl,rfl⟩)
    have bz0:((w3.alloc (.cells #[.slice none 0 0] 33)).alloc (.cells (L6.bx s) 9)).heap.size = w.heap.size+5:=by simp [bz]
    have bw3:Below w3.heap.size w3 ((w3.alloc (.cells #[.slice none 0 0] 33)).alloc (.cells (L6.bx s) 9)):=((Below.refl _ _).alloc (Nat.le_refl _) _).alloc (by simp) _
    have r0:ResAt w.heap.size (.slice none 0 0) 0 0 ((w3.alloc (.cells #[.slice none 0 0] 33)).alloc (.cells (L6.bx s) 9)):=ResAt.mk (b0.kept bw3) (b1.kept bw3) (b2.kept bw3)
    have bo:Bk ((w3.alloc (.cells #[.slice none 0 0] 33)).alloc (.cells (L6.bx s) 9)) (w.heap.size+3) 33 #[.slice none 0 0]:=by
     have:=(Bk.fresh w3 33 #[.slice none 0 0]).kept ((Below.refl _ _).alloc (Nat.le_refl _) (.cells (L6.bx s) 9))
     rwa [bz] at this
    have bs:Bk ((w3.alloc (.cells #[.slice none 0 0] 33)).alloc (.cells (L6.bx s) 9)) (w.heap.size+4) 9 (L6.bx s):=by
     have:=Bk.fresh (w3.alloc (.cells #[.slice none 0 0] 33)) 9 (L6.bx s)
     rwa [World.size_alloc,bz] at this
    have bw0:=bw.trans (bw3.mono (show w.heap.size≤w3.heap.size by omega))
    generalize (w3.alloc (.cells #[.slice none 0 0] 33)).alloc (.cells (L6.bx s) 9) = W0 at bz0 r0 bo bs bw0 ⊢
    clear b0 b1 b2 bw bz bw3
    refine range_at (gf:=161) (lb:=#[.pointer (some ⟨w.heap.size+3+1,0,none⟩)]) rfl (enters_of Tryz.func161 (by kernel_rfl) rfl)
     (fun fn X=>∃ k rec,PA s w rec .ready k [] X) (fun fn c X=>∃ rec,PX s w rec X∧c = .ret) ?call ?done ?stop
    case done=>
     rintro fn X ⟨k,rec,h⟩
     rw [bz0]
     generalize hex:X.putObj (w.heap.size+5+1) _ = X'
     have hx:∀ g,g ≠ w.heap.size+6→X'.heap[g]? = X.heap[g]?:=fun g hg=>by rw [← hex];exact World.putObj_heap_other hg
     have hbw:Below w.heap.size w X':=by rw [← hex];exact Below.put h.below _ _ (by omega)
     obtain ⟨ls,v,h1,h2,rfl,h4⟩:=h.out
     have hr:=h.res.same (X':=X') (fun g _ _=>hx g (by omega))
     have hd:=(hx (w.heap.size+5) (by omega)).trans h.db
     have ho:Bk X' (w.heap.size+3) 33 #[v]:=(hx _ (by omega)).trans h1
     have hown:OwnL (w.heap.size+12) X' v ls:=h2.up (fun g hg _=>hx g (by omega))
     clear hx hex h h1 h2
     obtain ⟨AV,cV,rfl⟩:=hown.form
     have k0:=hr.b0.cell 0
     have f0:=hr.b0.free 0
     have k1:=hr.b1.cell 0
     have f1:=hr.b1.free 0
     have k2:X'.cell? ⟨w.heap.size+1+1,0,none⟩ = some (.int .i64 0):=hr.b2.cell 0
     have f2:X'.frozen? ⟨w.heap.size+1+1,0,none⟩ = false:=hr.b2.free 0
     have k3:=ho.cell 0
     gi_wp2
     have hr':ResAt w.heap.size (.slice AV ls.length cV) 0 0 (put3 X' w.heap.size (.slice AV ls.length cV) (.int .i64 ((0:Nat):Int)) (.int .i64 ((0:Nat):Int))):=hr.put3
     have hd':=(put3_other X' w.heap.size (.slice AV ls.length cV) (.int .i64 ((0:Nat):Int)) (.int .i64 ((0:Nat):Int)) (w.heap.size+5) (by omega)).trans hd
     have hown':=hown.up (w':=put3 X' w.heap.size (.slice AV ls.length cV) (.int .i64 ((0:Nat):Int)) (.int .i64 ((0:Nat):Int))) (fun g hg _=>put3_other _ _ _ _ _ _ (by omega))
     have hbw':=put3_below (v:=.slice AV ls.length cV) (a:=.int .i64 ((0:Nat):Int)) (b:=.int .i64 ((0:Nat):Int)) hbw
     have e:L6.parse s = (ls,0,0):=by rw [HP.out,h4];rfl
     refine ⟨by simp,.inl ⟨_,_,rfl,run_takeDeferred hd',?_⟩⟩
     exact ⟨_,parse_results (hr'.same (fun g _ _=>World.putObj_heap_other (by omega))) rfl rfl rfl,.slice AV ls.length cV,by rw [e],by rw [e];exact (hown'.up (fun g hg _=>World.putObj_heap_other (by omega))).rebase (by omega),Below.put hbw' _ _ (by omega)⟩
    case stop=>
     rintro fn c X ⟨rec,h,rfl⟩
     rw [bz0]
     gi_wp2
     have hkeep:∀ g,g < w.heap.size+5→((X.putObj (w.heap.size+6) (.loop (rec .ready none))).heap[g]? = X.heap[g]?):=fun g hg=>World.putObj_heap_other (by omega)
     refine ⟨by simp,.inl ⟨_,_,rfl,run_takeDeferred ((World.putObj_heap_other (by omega)).trans h.db),?_⟩⟩
     obtain ⟨i,c,hr,hp⟩:=h.res
     refine ⟨_,parse_results ((hr.same (X':=X.putObj (w.heap.size+6) _) (fun g _ _=>World.putObj_heap_other (by omega))).same (fun g _ _=>World.putObj_heap_other (by omega))) rfl rfl rfl,.slice none 0 0,by rw [HP.out,hp],by rw [HP.out,hp];exact OwnL.nil _ _,Below.put (Below.put h.below _ _ (by omega)) _ _ (by omega)⟩
    case call=>
     intro fn
     rw [bz0]
     generalize hrec:(rec_ fn _ _ _ _ (w.heap.size+5)) = rec
     show CallsIn Fence.wide 19 Tryz.prog 161 #[.func (.yield (w.heap.size+6)) #[] #[],.pointer (some ⟨w.heap.size+4,0,none⟩)] _ _
     have hbw3:Below W0.heap.size W0 ((W0.alloc (.deferred (some []))).alloc (.loop (rec .ready none))):=((Below.refl _ _).alloc (Nat.le_refl _) _).alloc (by simp) _
     have hd3:((W0.alloc (.deferred (some []))).alloc (.loop (rec .ready none))).heap[w.heap.size+5]? = some (.deferred (some [])):=by
      have:=(Below.heap_alloc (W0.alloc (.deferred (some []))) (.loop (rec .ready none)) W0.heap.size (by simp)).trans (World.alloc_heap_new W0 _)
      rwa [bz0] at this
     have hr3:((W0.alloc (.deferred (some []))).alloc (.loop (rec .ready none))).heap[w.heap.size+6]? = some (.loop (rec .ready none)):=by
      have:=World.alloc_heap_new (W0.alloc (.deferred (some []))) (.loop (rec .ready none))
      rwa [World.size_alloc,bz0] at this
     have hsz3:((W0.alloc (.deferred (some []))).alloc (.loop (rec .ready none))).heap.size = w.heap.size+7:=by simp [bz0]
     have hPA:PA s w rec .ready 0 s ((W0.alloc (.deferred (some []))).alloc (.loop (rec .ready none))):=
      ⟨⟨[],.slice none 0 0,bo.kept hbw3,OwnL.nil _ _,rfl,rfl⟩,by simp,Nat.le_refl _,r0.same (fun g _ _=>hbw3.block g (by omega)),hd3,hr3,bw0.trans (hbw3.mono (by omega))⟩
     have hbs:=bs.kept hbw3
     generalize (W0.alloc (.deferred (some []))).alloc (.loop (rec .ready none)) = W1 at hsz3 hPA hbs ⊢
     clear hbw3 hd3 hr3
     refine (cut1_in 19 (w.heap.size+6) (by omega) (fun k s' X=>PA s w rec .ready k s' X) (fun X=>PX s w rec X) W1 ?_ ?_ ?_ ?_ s HS.out (w.heap.size+4) hbs ?_).mono ?_
     ·rw [hsz3];intro k s' X X' h hm;exact h.mid hm
     ·rw [hsz3];intro X X' h hm;exact h.mid hm
     ·intro k s' X h;have:=h.num;have:=HLIM.out;omega
     ·rw [hsz3]
      intro m k s' X hs' hX h
      show YieldAt Fence.wide m Tryz.prog (w.heap.size+6) #[.int .i64 ((k:Int)+1),.string ⟨(L6.trim (L6.piece s').1).toArray⟩] X (YPost s w rec (k+1) (L6.piece s').2 X)
      have hr:=h.rb
      rw [← hrec] at hr
      refine yieldAny (m:=18) (yield_at hr rfl { tmps:=#[.string ⟨s.toArray⟩,undef,.pointer (some ⟨w.heap.size,0,none⟩),.pointer (some ⟨w.heap.size+1,0,none⟩),.pointer (some ⟨w.heap.size+1+1,0,none⟩),.int .i64 ((L6.split s).length:Int),.pointer (some ⟨w.heap.size+3,0,none⟩),.int .i64 ((k:Int)+1),.string ⟨(L6.trim (L6.piece s').1).toArray⟩,undef,undef,u11,u12,u13,u14,u15,u16,u17,u18,u19,u20,u21,.int .i64 ((L6.split s).length:Int),.bool (decide ((32768:Int) < ((L6.split s).length:Int))),.string ⟨s.toArray⟩,.func (.func 161) #[] #[.pointer (some ⟨w.heap.size+3+1,0,none⟩)],.int .i64 ((k:Int)+1),.string ⟨(L6.trim (L6.piece s').1).toArray⟩,u28,u29,u30,u31,u32,u33,u34,u35,u36,u37,u38,u39,u40,u41,u42,u43,u44,u45],defers:=[] } ?ass ?bod)
      case ass=>intro K hK;gi_wp2;exact hK
      case bod=>
       rw [hrec]
       have hB:=h.busy (st':=.busy)
       have hXz:X.heap.size≤(X.putObj (w.heap.size+6) (.loop (rec .busy none))).heap.size:=by rw [World.putObj_size];exact Nat.le_refl _
       have hXk:∀ g,w.heap.size+7≤g→g < w.heap.size+7+5→(X.putObj (w.heap.size+6) (.loop (rec .busy none))).heap[g]? = X.heap[g]?:=fun g hg _=>World.putObj_heap_other (by omega)
       generalize X.putObj (w.heap.size+6) (.loop (rec .busy none)) = X1 at hB hXz hXk ⊢
       have HB:=Lib.hid hB
       have HXZ:=Lib.hid hXz
       have HXK:=Lib.hid hXk
       have HX:=Lib.hid hX
       have htl:(L6.trim (L6.piece s').1).length≤1000000000:=by
        have h1:=L6.trim_len (L6.piece s').1
        have h2:=congrArg List.length (L6.piece_app s')
        have h3:=h.slen
        have h4:=HS.out
        simp only [List.length_append] at h2
        omega
       obtain ⟨ls,v,g1,g2,rfl,g4⟩:=hB.out
       rw [L6.split_piece hs'] at g4
       have k0:=hB.res.b0.cell 0
       have f0:=hB.res.b0.free 0
       have k1:=hB.res.b1.cell 0
       have f1:=hB.res.b1.free 0
       have k2:X1.cell? ⟨w.heap.size+1+1,0,none⟩ = some (.int .i64 0):=hB.res.b2.cell 0
       have f2:X1.frozen? ⟨w.heap.size+1+1,0,none⟩ = false:=hB.res.b2.free 0
       have HBO1:=Lib.hid g1
       have HOWN:=Lib.hid g2
       have G4:=Lib.hid g4
       have HSL:=Lib.hid hs'
       clear h hr hB hX hXz hXk g4 hs' hbs
       generalize htt:L6.trim (L6.piece s').1 = t at htl G4 ⊢
       by_cases hbig:256 < t.length
       ·have hbig':(256:Int) < t.length:=by omega
        have HPP:=Lib.hid (show L6.parseL 0 [] (L6.split s) = ([],ls.length+1,6) from by rw [G4.out];unfold L6.parseL;rw [if_pos hbig])
        clear hbig
        gi_wp2
        exact parse_stop (J:=fun X'=>PA s w rec .ready (ls.length+1) (L6.piece s').2 X') HB.out HPP.out HXK.out HXZ.out _ _ rfl rfl
       ·have hbig':(t.length:Int)≤256:=by omega
        have hbig:t.length≤256:=by omega
        have HBG:=Lib.hid hbig
        have CW:=lwords_any t X1 htl
        cases hw:L6.wordsOf t with
        | none=>
         have HPP:=Lib.hid (show L6.parseL 0 [] (L6.split s) = ([],ls.length+1,40) from by rw [G4.out];unfold L6.parseL;rw [if_neg (by omega),hw])
         have CWN:=Lib.hid (CW.mono (R':=fun e w'=>e = .returned (.tuple #[.slice none 0 0,.bool false])∧Below X1.heap.size X1 w') (fun e w' hh=>by rw [hw] at hh;exact hh))
         clear hbig CW hw htl
         gi_wp2_with (refine ⟨trivial,?_⟩;gi_at_call 100;refine (CallsIn.inRound _ (callsIn_wide.2 CWN.out)).mono ?_;rintro e w' ⟨rfl,hbw⟩;have hB2:=HB.out.kept hbw;have l0:=hB2.res.b0.cell 0;have e0:=hB2.res.b0.free 0;have l1:=hB2.res.b1.cell 0;have e1:=hB2.res.b1.free 0;have l2:w'.cell? ⟨w.heap.size+1+1,0,none⟩ = some (.int .i64 0):=hB2.res.b2.cell 0;have e2:w'.frozen? ⟨w.heap.size+1+1,0,none⟩ = false:=hB2.res.b2.free 0)
         exact parse_stop (J:=fun X'=>PA s w rec .ready (ls.length+1) (L6.piece s').2 X') hB2 HPP.out (fun g a b=>(hbw.block g (by have:=HX.out;have:=HXZ.out;omega)).trans (HXK.out g a b)) (Nat.le_trans HXZ.out hbw.size) _ _ rfl rfl
        | some ws=>
         have HWB:=Lib.hid (L6.wordsOf_bound hw)
         have HPP:=Lib.hid (show L6.parseL 0 [] (L6.split s) = L6.parseL (ls.length+1) (ls ++ [L6.line ws]) (L6.split (L6.piece s').2) from by rw [G4.out];conv=>lhs;unfold L6.parseL;rw [if_neg (by omega),hw])
         have CWS:=Lib.hid (CW.mono (R':=fun e w'=>∃ v,e = .returned (.tuple #[v,.bool true])∧OwnS X1.heap.size w' v ws∧Below X1.heap.size X1 w') (fun e w' hh=>by rw [hw] at hh;exact hh))
         clear hbig CW hw htl
         gi_wp2_with (refine ⟨trivial,?_⟩;gi_at_call 100;refine (CallsIn.inRound _ (callsIn_wide.2 CWS.out)).mono ?_;rintro e w' ⟨vw,rfl,hvw,hbw⟩)
         have hB2:=HB.out.kept hbw
         have hown2:OwnL (w.heap.size+12) w' v ls:=HOWN.out.kept hbw
         obtain ⟨cs,hcs1,hcs2⟩:=hown2
         have hbo2:Bk w' (w.heap.size+3) 33 #[v]:=HBO1.out.kept hbw
         obtain ⟨AV,cV,rfl⟩:=(Rd.of_own hcs1).form
         have ko:w'.drew.cell? ⟨w.heap.size+3,0,none⟩ = some (.slice AV ls.length cV):=hbo2.cell 0
         have HZ:=Lib.hid (show w.heap.size+12≤w'.heap.size from by have:=HX.out;have:=HXZ.out;have:=hbw.size;omega)
         have HLT3:=Lib.hid (show w.heap.size+3 < w'.heap.size from by have:=HZ.out;omega)
         have CLN:=Lib.hid (fun Z (hZ:Below w'.heap.size w' Z)=>lline_any vw ws Z ((OwnS.rd hvw).kept hZ) (by have:=HWB.out.1;have:=HBG.out;omega) (fun x hx=>by have:=HWB.out.2 x hx;have:=HBG.out;omega))
         have HB2:=Lib.hid hB2
         have HCS:=Lib.hid hcs2
         have HOW:=Lib.hid hcs1
         have HBO:=Lib.hid hbo2
         have HL1:=Lib.hid (show (ls.length+1) * 64≤140737488355328 from by have:=hB2.num;have:=HLIM.out;omega)
         have HL2:=Lib.hid (show ls.length+1≤maxLen from by have:=hB2.num;have:=HLIM.out;unfold maxLen;omega)
         have HNUM:=Lib.hid (show (L6.split s').length = (L6.split (L6.piece s').2).length+1 from by rw [L6.split_piece HSL.out];simp)
         have HSLEN:=Lib.hid (show (L6.piece s').2.length≤s'.length from Nat.le_of_lt (L6.piece_left HSL.out))
         have HKX:=Lib.hid (show ∀ g,w.heap.size+7≤g→g < w.heap.size+7+5→w'.heap[g]? = X.heap[g]? from fun g a b=>(hbw.block g (by have:=HX.out;have:=HXZ.out;omega)).trans (HXK.out g a b))
         have HZX:=Lib.hid (show X.heap.size≤w'.heap.size from Nat.le_trans HXZ.out hbw.size)
         clear hB2 hcs1 hcs2 hbo2
         generalize hv:Value.slice AV ls.length cV = v at *
         refine wpIn_region_any mixed ?_
         change wpAnyIn _ _ _ _ _ _ _ _ _ w'.drew
         -- region 15
         refine wpAnyIn_ready (rs:=[0,1]) (by kernel_rfl) (by simp) ?_
         refine AllReadyIn.cons rfl (fun K hK=>?_) ?_
         ·go_simp
          first | (refine hK _ _ ?_;clear hK K) | skip
          refine wpAnyIn_ready (rs:=[1]) (by kernel_rfl) (by simp) ?_
          refine AllReadyIn.cons rfl (fun K hK=>?_) ?_
          ·go_simp
           first | (refine hK _ _ ?_;clear hK K) | skip
           refine wpAnyIn_ready (rs:=[2]) (by kernel_rfl) (by simp) ?_
           refine AllReadyIn.cons rfl (fun K hK=>?_) ?_
           ·go_simp
            gi_wp2_with (refine ⟨trivial,?_⟩;gi_at_call 101;refine (CallsIn.inRound _ (callsIn_wide.2 (CLN.out _ (Below.refl _ _).drew))).mono ?_;rintro e w4 ⟨vl,va,rfl,hl4,ha4,hb4⟩;have ko4:=(hb4.cell (p:=⟨w.heap.size+3,0,none⟩) HLT3.out).trans ko;have ko5:=World.cell?_alloc_lt w4 (.cells #[vl,.string ⟨(L6.line ws).word.toArray⟩,va] 105) ⟨w.heap.size+3,0,none⟩ (Nat.lt_of_lt_of_le HLT3.out hb4.size);rw [ko4] at ko5)
            first | (refine hK _ _ ?_;clear hK K) | skip
            refine wpAnyIn_ready (rs:=[3]) (by kernel_rfl) (by simp) ?_
            refine AllReadyIn.cons rfl (fun K hK=>?_) ?_
            ·go_simp
             first | (refine hK _ _ ?_;clear hK K) | skip
             refine wpAnyIn_ready (rs:=[4]) (by kernel_rfl) (by simp) ?_
             refine AllReadyIn.cons rfl (fun K hK=>?_) ?_
             ·refine step_appendIn (by rfl) _ _ _ _ (by rfl) llrt (by decide) (w.heap.size+12) v (by rfl) ls.length cs (own_kept HOW.out (((Below.refl _ _).drew.trans hb4).alloc hb4.size _)) _ (by rfl) 1 [vl,.string ⟨(L6.line ws).word.toArray⟩,va] (Rd.src llrt (Rd.built (Bk.fresh w4 _ #[vl,.string ⟨(L6.line ws).word.toArray⟩,va]) rfl) (one3 hl4 ha4)) HL1.out HL2.out (Nat.le_trans HZ.out (by have:=hb4.size;simp at this ⊢;omega)) ?_
              intro v6 w6 ho6 hb6 hg6
              obtain ⟨A6,c6,rfl⟩:=(Rd.of_own ho6).form
              have ko6:=(hg6.block (w.heap.size+3) (by have:=hb4.size;have:=HLT3.out;simp at *;omega) (fun e=>by have:=ownBlock_ge HOW.out e.symm;omega)).trans ((((Below.refl _ _).drew.trans hb4).alloc hb4.size (.cells #[vl,.string ⟨(L6.line ws).word.toArray⟩,va] 105)).block _ HLT3.out)
              have bo6:Bk w6 (w.heap.size+3) 33 #[v]:=ko6.trans HBO.out
              have ka6:=bo6.cell 0
              have kf6:=bo6.free 0
              first | (refine hK _ _ ?_;clear hK K) | skip
              refine wpAnyIn_ready (rs:=[5]) (by kernel_rfl) (by simp) ?_
              refine AllReadyIn.cons rfl (fun K hK=>?_) ?_
              ·go_simp
               first | (refine hK _ _ ?_;clear hK K) | skip
               refine wpAnyIn_done (by kernel_rfl) ?_ _
               exact parse_round HB2.out HBO.out HCS.out HOW.out rfl HZ.out ((Below.refl _ _).drew.trans hb4) hl4 ha4 ho6 hg6 HPP.out HNUM.out HSLEN.out HKX.out HZX.out
              exact AllReadyIn.nil
             exact AllReadyIn.nil
            exact AllReadyIn.nil
           exact AllReadyIn.nil
          exact AllReadyIn.nil
         refine AllReadyIn.cons rfl (fun K hK=>?_) ?_
         ·go_simp
          first | (refine hK _ _ ?_;clear hK K) | skip
          refine wpAnyIn_ready (rs:=[0,2]) (by kernel_rfl) (by simp) ?_
          refine AllReadyIn.cons rfl (fun K hK=>?_) ?_
          ·go_simp
           first | (refine hK _ _ ?_;clear hK K) | skip
           refine wpAnyIn_ready (rs:=[2]) (by kernel_rfl) (by simp) ?_
           refine AllReadyIn.cons rfl (fun K hK=>?_) ?_
           ·go_simp
            gi_wp2_with (refine ⟨trivial,?_⟩;gi_at_call 101;refine (CallsIn.inRound _ (callsIn_wide.2 (CLN.out _ (Below.refl _ _).drew))).mono ?_;rintro e w4 ⟨vl,va,rfl,hl4,ha4,hb4⟩;have ko4:=(hb4.cell (p:=⟨w.heap.size+3,0,none⟩) HLT3.out).trans ko;have ko5:=World.cell?_alloc_lt w4 (.cells #[vl,.string ⟨(L6.line ws).word.toArray⟩,va] 105) ⟨w.heap.size+3,0,none⟩ (Nat.lt_of_lt_of_le HLT3.out hb4.size);rw [ko4] at ko5)
            first | (refine hK _ _ ?_;clear hK K) | skip
            refine wpAnyIn_ready (rs:=[3]) (by kernel_rfl) (by simp) ?_
            refine AllReadyIn.cons rfl (fun K hK=>?_) ?_
            ·go_simp
             first | (refine hK _ _ ?_;clear hK K) | skip
             refine wpAnyIn_ready (rs:=[4]) (by kernel_rfl) (by simp) ?_
             refine AllReadyIn.cons rfl (fun K hK=>?_) ?_
             ·refine step_appendIn (by rfl) _ _ _ _ (by rfl) llrt (by decide) (w.heap.size+12) v (by rfl) ls.length cs (own_kept HOW.out (((Below.refl _ _).drew.trans hb4).alloc hb4.size _)) _ (by rfl) 1 [vl,.string ⟨(L6.line ws).word.toArray⟩,va] (Rd.src llrt (Rd.built (Bk.fresh w4 _ #[vl,.string ⟨(L6.line ws).word.toArray⟩,va]) rfl) (one3 hl4 ha4)) HL1.out HL2.out (Nat.le_trans HZ.out (by have:=hb4.size;simp at this ⊢;omega)) ?_
              intro v6 w6 ho6 hb6 hg6
              obtain ⟨A6,c6,rfl⟩:=(Rd.of_own ho6).form
              have ko6:=(hg6.block (w.heap.size+3) (by have:=hb4.size;have:=HLT3.out;simp at *;omega) (fun e=>by have:=ownBlock_ge HOW.out e.symm;omega)).trans ((((Below.refl _ _).drew.trans hb4).alloc hb4.size (.cells #[vl,.string ⟨(L6.line ws).word.toArray⟩,va] 105)).block _ HLT3.out)
              have bo6:Bk w6 (w.heap.size+3) 33 #[v]:=ko6.trans HBO.out
              have ka6:=bo6.cell 0
              have kf6:=bo6.free 0
              first | (refine hK _ _ ?_;clear hK K) | skip
              refine wpAnyIn_ready (rs:=[5]) (by kernel_rfl) (by simp) ?_
              refine AllReadyIn.cons rfl (fun K hK=>?_) ?_
              ·go_simp
               first | (refine hK _ _ ?_;clear hK K) | skip
               refine wpAnyIn_done (by kernel_rfl) ?_ _
               exact parse_round HB2.out HBO.out HCS.out HOW.out rfl HZ.out ((Below.refl _ _).drew.trans hb4) hl4 ha4 ho6 hg6 HPP.out HNUM.out HSLEN.out HKX.out HZX.out
              exact AllReadyIn.nil
             exact AllReadyIn.nil
            exact AllReadyIn.nil
           exact AllReadyIn.nil
          refine AllReadyIn.cons rfl (fun K hK=>?_) ?_
          ·go_simp
           gi_wp2_with (refine ⟨trivial,?_⟩;gi_at_call 101;refine (CallsIn.inRound _ (callsIn_wide.2 (CLN.out _ (Below.refl _ _).drew))).mono ?_;rintro e w4 ⟨vl,va,rfl,hl4,ha4,hb4⟩;have ko4:=(hb4.cell (p:=⟨w.heap.size+3,0,none⟩) HLT3.out).trans ko;have ko5:=World.cell?_alloc_lt w4 (.cells #[vl,.string ⟨(L6.line ws).word.toArray⟩,va] 105) ⟨w.heap.size+3,0,none⟩ (Nat.lt_of_lt_of_le HLT3.out hb4.size);rw [ko4] at ko5)
           first | (refine hK _ _ ?_;clear hK K) | skip
           refine wpAnyIn_ready (rs:=[0,3]) (by kernel_rfl) (by simp) ?_
           refine AllReadyIn.cons rfl (fun K hK=>?_) ?_
           ·go_simp
            first | (refine hK _ _ ?_;clear hK K) | skip
            refine wpAnyIn_ready (rs:=[3]) (by kernel_rfl) (by simp) ?_
            refine AllReadyIn.cons rfl (fun K hK=>?_) ?_
            ·go_simp
             first | (refine hK _ _ ?_;clear hK K) | skip
             refine wpAnyIn_ready (rs:=[4]) (by kernel_rfl) (by simp) ?_
             refine AllReadyIn.cons rfl (fun K hK=>?_) ?_
             ·refine step_appendIn (by rfl) _ _ _ _ (by rfl) llrt (by decide) (w.heap.size+12) v (by rfl) ls.length cs (own_kept HOW.out (((Below.refl _ _).drew.trans hb4).alloc hb4.size _)) _ (by rfl) 1 [vl,.string ⟨(L6.line ws).word.toArray⟩,va] (Rd.src llrt (Rd.built (Bk.fresh w4 _ #[vl,.string ⟨(L6.line ws).word.toArray⟩,va]) rfl) (one3 hl4 ha4)) HL1.out HL2.out (Nat.le_trans HZ.out (by have:=hb4.size;simp at this ⊢;omega)) ?_
              intro v6 w6 ho6 hb6 hg6
              obtain ⟨A6,c6,rfl⟩:=(Rd.of_own ho6).form
              have ko6:=(hg6.block (w.heap.size+3) (by have:=hb4.size;have:=HLT3.out;simp at *;omega) (fun e=>by have:=ownBlock_ge HOW.out e.symm;omega)).trans ((((Below.refl _ _).drew.trans hb4).alloc hb4.size (.cells #[vl,.string ⟨(L6.line ws).word.toArray⟩,va] 105)).block _ HLT3.out)
              have bo6:Bk w6 (w.heap.size+3) 33 #[v]:=ko6.trans HBO.out
              have ka6:=bo6.cell 0
              have kf6:=bo6.free 0
              first | (refine hK _ _ ?_;clear hK K) | skip
              refine wpAnyIn_ready (rs:=[5]) (by kernel_rfl) (by simp) ?_
              refine AllReadyIn.cons rfl (fun K hK=>?_) ?_
              ·go_simp
               first | (refine hK _ _ ?_;clear hK K) | skip
               refine wpAnyIn_done (by kernel_rfl) ?_ _
               exact parse_round HB2.out HBO.out HCS.out HOW.out rfl HZ.out ((Below.refl _ _).drew.trans hb4) hl4 ha4 ho6 hg6 HPP.out HNUM.out HSLEN.out HKX.out HZX.out
              exact AllReadyIn.nil
             exact AllReadyIn.nil
            exact AllReadyIn.nil
           refine AllReadyIn.cons rfl (fun K hK=>?_) ?_
           ·go_simp
            first | (refine hK _ _ ?_;clear hK K) | skip
            refine wpAnyIn_ready (rs:=[0]) (by kernel_rfl) (by simp) ?_
            refine AllReadyIn.cons rfl (fun K hK=>?_) ?_
            ·go_simp
             first | (refine hK _ _ ?_;clear hK K) | skip
             refine wpAnyIn_ready (rs:=[4]) (by kernel_rfl) (by simp) ?_
             refine AllReadyIn.cons rfl (fun K hK=>?_) ?_
             ·refine step_appendIn (by rfl) _ _ _ _ (by rfl) llrt (by decide) (w.heap.size+12) v (by rfl) ls.length cs (own_kept HOW.out (((Below.refl _ _).drew.trans hb4).alloc hb4.size _)) _ (by rfl) 1 [vl,.string ⟨(L6.line ws).word.toArray⟩,va] (Rd.src llrt (Rd.built (Bk.fresh w4 _ #[vl,.string ⟨(L6.line ws).word.toArray⟩,va]) rfl) (one3 hl4 ha4)) HL1.out HL2.out (Nat.le_trans HZ.out (by have:=hb4.size;simp at this ⊢;omega)) ?_
              intro v6 w6 ho6 hb6 hg6
              obtain ⟨A6,c6,rfl⟩:=(Rd.of_own ho6).form
              have ko6:=(hg6.block (w.heap.size+3) (by have:=hb4.size;have:=HLT3.out;simp at *;omega) (fun e=>by have:=ownBlock_ge HOW.out e.symm;omega)).trans ((((Below.refl _ _).drew.trans hb4).alloc hb4.size (.cells #[vl,.string ⟨(L6.line ws).word.toArray⟩,va] 105)).block _ HLT3.out)
              have bo6:Bk w6 (w.heap.size+3) 33 #[v]:=ko6.trans HBO.out
              have ka6:=bo6.cell 0
              have kf6:=bo6.free 0
              first | (refine hK _ _ ?_;clear hK K) | skip
              refine wpAnyIn_ready (rs:=[5]) (by kernel_rfl) (by simp) ?_
              refine AllReadyIn.cons rfl (fun K hK=>?_) ?_
              ·go_simp
               first | (refine hK _ _ ?_;clear hK K) | skip
               refine wpAnyIn_done (by kernel_rfl) ?_ _
               exact parse_round HB2.out HBO.out HCS.out HOW.out rfl HZ.out ((Below.refl _ _).drew.trans hb4) hl4 ha4 ho6 hg6 HPP.out HNUM.out HSLEN.out HKX.out HZX.out
              exact AllReadyIn.nil
             exact AllReadyIn.nil
            exact AllReadyIn.nil
           exact AllReadyIn.nil
          exact AllReadyIn.nil
         exact AllReadyIn.nil
         -- behind region 15
     ·intro W2 hb2;exact hPA.kept hb2
     ·rintro e X ⟨hv,(⟨k,h⟩ | h)⟩
      ·exact ⟨hv,.inl ⟨h.rb,k,rec,h⟩⟩
      ·exact ⟨hv,.inr ⟨_,h.rb,rec,h,rfl⟩⟩
end Go.Proofs.YtpcpaoeajcjoiaaGreatDoor
