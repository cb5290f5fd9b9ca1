/- Texts joined, what is not reached left out. -/
import Derived.Test.YtpcpaoeajcjoiaaGreatDoorLT
import Derived.Test.YtpcpaoeajcjoiaaGreatDoorKX
set_option linter.unusedVariables false
set_option linter.unusedSimpArgs false
namespace Go.Proofs.YtpcpaoeajcjoiaaGreatDoor
open Go.RowKit Kit
def Bd (base b : Nat) (l : List UInt8) (w : World) : Prop:=Lib.IsBuilder 226 5 base b (bv l) w
def BdAt (base b : Nat) (l : List UInt8) (w : World) : Prop:=Lib.BuilderAt 226 5 base b (.pointer (some ⟨b,0,none⟩)) (bv l) w
theorem BdAt.bd {base b : Nat} {l : List UInt8} {w : World} (h : BdAt base b l w) : Bd base b l w:=.inr h
theorem bd_info : ∃ j,Tryz.prog.info? 226 = some j ∧ j.size = 2:=by
 have h : (Tryz.prog.info? 226).map (·.size) = some 2:=by kernel_rfl
 exact Option.map_eq_some_iff.1 h
theorem BdAt.kept {base b : Nat} {l : List UInt8} {w w' : World} (h : BdAt base b l w) (hb : Below w.heap.size w w') : BdAt base b l w':=by
 obtain ⟨h1,v,h2,h3,h4⟩:=h
 exact ⟨h1,v,(hb.block _ (Array.getElem?_eq_some_iff.1 h2).1).trans h2,own_kept h3 hb,h4⟩
theorem Bd.kept {base b : Nat} {l : List UInt8} {w w' : World} (h : Bd base b l w) (hb : Below w.heap.size w w') : Bd base b l w':=by
 rcases h with ⟨h1,v,h2,h3,h4⟩ | h
 ·exact .inl ⟨h1,v,(hb.block _ (Array.getElem?_eq_some_iff.1 h2).1).trans h2,own_kept h3 hb,h4⟩
 ·exact .inr (BdAt.kept h hb)
set_option maxRecDepth 100000 in
theorem bcheck_used (b : Nat) (w : World) (h0 : w.cell? ⟨b,0,none⟩ = some (.pointer (some ⟨b,0,none⟩))) :
  Calls Tryz.prog 191 #[.pointer (some ⟨b,0,none⟩)] w fun e w'=>e = .returned (.tuple #[]) ∧ w' = w:=by
 obtain ⟨j,hj,_⟩:=bd_info
 go_enter Tryz.func191,Tryz.ntmps191
 go_wp2
 rw [Lib.run_neq_ptr_same w _ Tryz.underlying224 hj]
 go_wp2
 go_end0
 exact ⟨rfl,rfl⟩
set_option maxRecDepth 100000 in
theorem bcheck_fresh (b : Nat) (w : World) (h0 : w.cell? ⟨b,0,none⟩ = some (.pointer none)) (hsh : w.shape? b = some (226,2)) (hfz : w.frozen? ⟨b,0,none⟩ = false) :
  Calls Tryz.prog 191 #[.pointer (some ⟨b,0,none⟩)] w fun e w'=>e = .returned (.tuple #[]) ∧ w' = w.setCell ⟨b,0,none⟩ (.pointer (some ⟨b,0,none⟩)):=by
 obtain ⟨j,hj,hjs⟩:=bd_info
 go_enter Tryz.func191,Tryz.ntmps191
 go_wp2
 rw [Lib.run_to_unsafe w ⟨b,0,none⟩ Tryz.underlying224 Tryz.underlying334 hj (by rw [hjs];decide) hsh (Nat.zero_lt_succ 1)]
 simp only [Result.andThen]
 rw [Oper.upon_value]
 go_wp2
 rw [run_callFunc_extern Tryz.func248 (by kernel_rfl) (by kernel_rfl) (by kernel_rfl) (e:=Extern.AbiNoEscape.same) (by kernel_rfl)]
 rw [Lib.run_noEscape]
 simp only [Result.andThen]
 rw [Oper.upon_value]
 go_wp2
 rw [Lib.run_from_unsafe w ⟨b,0,none⟩ Tryz.underlying334 Tryz.underlying224 hj hsh (by kernel_rfl)]
 simp only [Result.andThen]
 rw [Oper.upon_value]
 go_wp2
 go_end0
 exact ⟨rfl,rfl⟩
theorem lbt : ByteTy Tryz.prog 26 5:=
 ⟨Tryz.underlying26,Tryz.underlying5,by
  have h : (Tryz.prog.info? 5).map (fun i=>(i.zero,i.size,i.bytes)) = some (some (.int .u8 0),1,1):=by kernel_rfl
  exact info_parts h⟩
def BdF (F : Nat → Prop) (b : Nat) (l : List UInt8) (w : World) : Prop:=
 (∃ p v,(p = .pointer none ∨ p = .pointer (some ⟨b,0,none⟩)) ∧ w.heap[b]? = some (.cells #[p,v] 226 (0,0)) ∧ OwnB 5 0 w v l ∧ ∀ k,v.ownBlock = some k → F k) ∧ F b ∧ ∀ k,F k → k < w.heap.size
theorem BdF.bd {F : Nat → Prop} {b : Nat} {l : List UInt8} {w : World} (h : BdF F b l w) : Bd 0 b l w:=by
 obtain ⟨⟨p,v,hp,hb,ho,hk⟩,hF,hs⟩:=h
 have hne : v.ownBlock ≠ some b:=own_bk_ne ho hb (by decide)
 have ho' : w.ownsRow 0 5 1 v (bv l).length (bv l):=by rw [bv_length];exact ho
 rcases hp with rfl | rfl
 ·exact .inl ⟨Nat.zero_le _,v,hb,ho',hne⟩
 ·exact .inr ⟨Nat.zero_le _,v,hb,ho',hne⟩
theorem BdF.fresh (F : Nat → Prop) (w : World) (hF : F w.heap.size) (hs : ∀ k,F k → k < w.heap.size + 1) : BdF F w.heap.size [] (w.alloc (.cells #[.pointer none,.slice none 0 0] 226)):=
 ⟨⟨_,_,.inl rfl,heap_alloc_new w _,OwnB.nil _ _ _,fun k hk=>by simp [Value.ownBlock] at hk⟩,hF,fun k hk=>by have:=hs k hk;simp;omega⟩
theorem BdF.step {F G : Nat → Prop} {b : Nat} {l : List UInt8} {w w' : World} (h : BdF F b l w) (hf : Fr G w w') (hd : ∀ k,F k → ¬ G k) : BdF F b l w':=by
 obtain ⟨⟨p,v,hp,hb,ho,hk⟩,hF,hs⟩:=h
 exact ⟨⟨p,v,hp,(hf.block b (hs b hF) (hd b hF)).trans hb,hf.own ho (fun k e=>hd k (hk k e)),hk⟩,hF,fun k e=>Nat.lt_of_lt_of_le (hs k e) hf.size⟩
theorem BdF.kept {F : Nat → Prop} {b : Nat} {l : List UInt8} {w w' : World} (h : BdF F b l w) (hb : Below w.heap.size w w') : BdF F b l w':=
 h.step (G:=fun _=>False) (Fr.of_below hb) (fun _ _ e=>e)
theorem bfcheck {F : Nat → Prop} {b : Nat} {l : List UInt8} {w : World} (h : BdF F b l w) : Calls Tryz.prog 191 #[.pointer (some ⟨b,0,none⟩)] w fun e w'=>e = .returned (.tuple #[]) ∧ (∃ v,w'.heap[b]? = some (.cells #[.pointer (some ⟨b,0,none⟩),v] 226 (0,0)) ∧ OwnB 5 0 w' v l ∧ ∀ k,v.ownBlock = some k → F k) ∧ Fr F w w' ∧ w'.heap.size = w.heap.size:=by
 have HB:=h.bd
 obtain ⟨⟨p,v,hp,hb,ho,hk⟩,hF,hs⟩:=h
 have hne : v.ownBlock ≠ some b:=own_bk_ne ho hb (by decide)
 have ho' : w.ownsRow 0 5 1 v (bv l).length (bv l):=by rw [bv_length];exact ho
 rcases hp with rfl | rfl
 ·have hc : w.cell? ⟨b,0,none⟩ = some (.pointer none):=by rw [Lib.cell_of_heap hb];rfl
  have hsh : w.shape? b = some (226,2):=by simp [World.shape?,hb]
  refine (bcheck_fresh b w hc hsh (Lib.frozen_of_heap hb 0)).mono ?_
  rintro e w' ⟨rfl,rfl⟩
  have hfr : Fr (fun k=>k = b) w (w.setCell ⟨b,0,none⟩ (.pointer (some ⟨b,0,none⟩))):=Fr.setCell w b 0 _ rfl
  refine ⟨rfl,⟨v,by simp [World.setCell,Array.getElem?_modify,hb],hfr.own ho (fun k e e'=>hne (by rw [e,e'])),hk⟩,hfr.mono (fun k e=>e ▸ hF),by simp [World.setCell]⟩
 ·have hc : w.cell? ⟨b,0,none⟩ = some (.pointer (some ⟨b,0,none⟩)):=by rw [Lib.cell_of_heap hb];rfl
  refine (bcheck_used b w hc).mono ?_
  rintro e w' ⟨rfl,rfl⟩
  exact ⟨rfl,⟨v,hb,ho,hk⟩,Fr.refl F _,rfl⟩
theorem lbrt : RowTy Tryz.prog 26 5 1 1:=
 ⟨Tryz.underlying26,by
  have h : (Tryz.prog.info? 5).map (fun i=>(i.zero,i.size,i.bytes)) = some (some (.int .u8 0),1,1):=by kernel_rfl
  obtain ⟨i,h1,h2,h3,h4⟩:=info_parts h
  exact ⟨i,_,h1,h2,h3,h4,by kernel_rfl⟩⟩
theorem BdF.wrote {F : Nat → Prop} {b : Nat} {l news : List UInt8} {w w2 : World} {v : Value} {A : Option Addr} {n c : Nat} (hF : F b) (hs : ∀ k,F k → k < w.heap.size) (hk : ∀ k,v.ownBlock = some k → F k)
  (hbk : w.heap[b]? = some (.cells #[.pointer (some ⟨b,0,none⟩),v] 226 (0,0))) (hown : OwnB 5 0 w v l)
  (ho : OwnB 5 0 w2 (.slice A n c) (l ++ news)) (hg : w.grownBy w2 v.ownBlock) (hv : ∀ k,(Value.slice A n c).ownBlock = some k → v.ownBlock = some k ∨ w.heap.size ≤ k) :
  w2.cell? ⟨b,0,none⟩ = some (.pointer (some ⟨b,0,none⟩)) ∧ w2.cell? ⟨b,1,none⟩ = some v ∧ w2.frozen? ⟨b,1,none⟩ = false ∧ Hid (∃ F',BdF F' b (l ++ news) (w2.setCell ⟨b,1,none⟩ (.slice A n c)) ∧ Step F w F' (w2.setCell ⟨b,1,none⟩ (.slice A n c))):=by
 have hne : v.ownBlock ≠ some b:=own_bk_ne hown hbk (by decide)
 have hb2 : w2.heap[b]? = some (.cells #[.pointer (some ⟨b,0,none⟩),v] 226 (0,0)):=by
  rw [hg.block b (Array.getElem?_eq_some_iff.1 hbk).1 (fun e=>hne e.symm)];exact hbk
 have hne2 : (Value.slice A n c).ownBlock ≠ some b:=own_bk_ne ho hb2 (by decide)
 have h1 : Fr F w w2:=Fr.of_grown hg hk
 have h2 : Fr (fun k=>k = b) w2 (w2.setCell ⟨b,1,none⟩ (.slice A n c)):=Fr.setCell w2 b 1 _ rfl
 refine ⟨by rw [Lib.cell_of_heap hb2];rfl,by rw [Lib.cell_of_heap hb2];rfl,Lib.frozen_of_heap hb2 1,?_⟩
 refine ⟨fun k=>F k ∨ (Value.slice A n c).ownBlock = some k,⟨⟨_,_,.inr rfl,by simp [World.setCell,Array.getElem?_modify,hb2],h2.own ho (fun k e e'=>hne2 (by rw [e,e'])),fun k e=>.inr e⟩,.inl hF,?_⟩,⟨h1.trans h2 (fun j e=>.inl (e ▸ hF)),?_⟩⟩
 ·rintro k (e | e)
  ·exact Nat.lt_of_lt_of_le (hs k e) (Nat.le_trans h1.size h2.size)
  ·exact Nat.lt_of_lt_of_le (own_lt' ho e) h2.size
 ·rintro k (e | e)
  ·exact .inl e
  ·exact (hv k e).elim (fun q=>.inl (hk k q)) .inr
set_option maxRecDepth 100000 in
set_option maxHeartbeats 1000000 in
theorem bfwrite_any {F : Nat → Prop} {b : Nat} {l : List UInt8} {w : World} (h : BdF F b l w) (s : List UInt8) (hlen : l.length + s.length ≤ 140737488355328) :
  Calls Tryz.prog 124 #[.pointer (some ⟨b,0,none⟩),.string ⟨s.toArray⟩] w fun e w'=>e = .returned (.tuple #[.int .i64 s.length,.nilIface]) ∧ ∃ F',BdF F' b (l ++ s) w' ∧ Step F w F' w':=by
 have CC:=Lib.hid (bfcheck h)
 have HLEN:=Lib.hid (show (l.length + s.length) * 1 ≤ 140737488355328 by omega)
 have HL2:=Lib.hid (show l.length + s.length ≤ maxLen from Nat.le_trans hlen (by decide))
 have HF:=Lib.hid h.2
 go_enter Tryz.func124,Tryz.ntmps124
 go_wp2_with (go_at_call 191;refine CC.out.mono ?_)
 rintro e w1 ⟨rfl,⟨v,hbk,hown,hk⟩,hfr,hsz0⟩
 have HSZ:=Lib.hid hsz0
 clear hsz0
 obtain ⟨A,cap,rfl⟩:=hown.len rfl
 have c0 : w1.cell? ⟨b,0,none⟩ = some (.pointer (some ⟨b,0,none⟩)):=by rw [Lib.cell_of_heap hbk];rfl
 have c1 : w1.cell? ⟨b,1,none⟩ = some (.slice A l.length cap):=by rw [Lib.cell_of_heap hbk];rfl
 have HOW:=Lib.hid hown
 have HSR:=Lib.hid (src_of_string (P:=Tryz.prog) Tryz.underlying9 w1 ⟨s.toArray⟩)
 have HP:=Lib.hid (fun (A2 : Option Addr) (n2 c2 : Nat) (w2 : World) (ho : OwnB 5 0 w2 (.slice A2 n2 c2) (l ++ s)) (hg : w1.grownBy w2 (Value.slice A l.length cap).ownBlock) (hv : ∀ k,(Value.slice A2 n2 c2).ownBlock = some k → (Value.slice A l.length cap).ownBlock = some k ∨ w1.heap.size ≤ k)=>BdF.wrote HF.out.1 (fun k e=>by rw [HSZ.out];exact HF.out.2 k e) hk hbk hown ho hg hv)
 have HFR:=Lib.hid hfr
 clear hown hbk h hfr hk
 go_wp2_with (at_builtin;refine wpList_appendRB rfl _ _ _ _ rfl lbrt (by decide) 0 _ rfl l.length (bv l) HOW.out _ rfl s.length (bv s) HSR.out HLEN.out HL2.out (Nat.zero_le _) ?_;intro v' w2 ho0 hbb hg hv;obtain ⟨A2,c2,rfl⟩:=(Rd.of_own ho0).form;obtain ⟨d0,d1,f1,HW⟩:=HP.out _ _ _ _ (by unfold OwnB;rw [bv_append];rw [List.length_append];exact ho0) hg hv;clear ho0 hg hv)
 go_ret2
 obtain ⟨F',k1,k2⟩:=HW.out
 exact ⟨rfl,F',k1,⟨HFR.out.trans k2.fr (fun j e=>.inl e),fun k e=>(k2.new k e).elim .inl (fun q=>.inr (HSZ.out ▸ q))⟩⟩
set_option maxRecDepth 100000 in
set_option maxHeartbeats 1000000 in
theorem bfbyte_any {F : Nat → Prop} {b : Nat} {l : List UInt8} {w : World} (h : BdF F b l w) (x : UInt8) (hlen : l.length + 1 ≤ 140737488355328) :
  Calls Tryz.prog 125 #[.pointer (some ⟨b,0,none⟩),.int .u8 x.toNat] w fun e w'=>e = .returned .nilIface ∧ ∃ F',BdF F' b (l ++ [x]) w' ∧ Step F w F' w':=by
 have CC:=Lib.hid (bfcheck h)
 have HLEN:=Lib.hid (show (l.length + [x].length) * 1 ≤ 140737488355328 by simp;omega)
 have HL2:=Lib.hid (show l.length + [x].length ≤ maxLen from Nat.le_trans hlen (by decide))
 have HF:=Lib.hid h.2
 go_enter Tryz.func125,Tryz.ntmps125
 go_wp2_with (go_at_call 191;refine CC.out.mono ?_)
 rintro e w1 ⟨rfl,⟨v,hbk,hown,hk⟩,hfr,hsz0⟩
 have HSZ:=Lib.hid hsz0
 clear hsz0
 obtain ⟨A,cap,rfl⟩:=hown.len rfl
 have c0 : w1.cell? ⟨b,0,none⟩ = some (.pointer (some ⟨b,0,none⟩)):=by rw [Lib.cell_of_heap hbk];rfl
 have c1 : w1.cell? ⟨b,1,none⟩ = some (.slice A l.length cap):=by rw [Lib.cell_of_heap hbk];rfl
 have hal : Below w1.heap.size w1 (w1.alloc (.cells #[.int .u8 x.toNat] 5)):=(Below.refl _ _).alloc (Nat.le_refl _) _
 have HAL:=Lib.hid (Fr.of_below (F:=F) hal)
 have HOW:=Lib.hid (hown.kept hal)
 have HSR:=Lib.hid (src_of_built (P:=Tryz.prog) lbt w1 5 #[.int .u8 x.toNat] [x] 1 rfl)
 have hbk2 : (w1.alloc (.cells #[.int .u8 x.toNat] 5)).heap[b]? = some (.cells #[.pointer (some ⟨b,0,none⟩),.slice A l.length cap] 226 (0,0)):=(hal.block _ (Array.getElem?_eq_some_iff.1 hbk).1).trans hbk
 have HP:=Lib.hid (fun (A2 : Option Addr) (n2 c2 : Nat) (w2 : World) (ho : OwnB 5 0 w2 (.slice A2 n2 c2) (l ++ [x])) (hg : (w1.alloc (.cells #[.int .u8 x.toNat] 5)).grownBy w2 (Value.slice A l.length cap).ownBlock) (hv : ∀ k,(Value.slice A2 n2 c2).ownBlock = some k → (Value.slice A l.length cap).ownBlock = some k ∨ (w1.alloc (.cells #[.int .u8 x.toNat] 5)).heap.size ≤ k)=>BdF.wrote HF.out.1 (fun k e=>Nat.lt_of_lt_of_le (by rw [HSZ.out];exact HF.out.2 k e) HAL.out.size) hk hbk2 (hown.kept hal) ho hg hv)
 have HFR:=Lib.hid hfr
 clear hown hbk hbk2 h hfr hk hal
 go_wp2_with (at_builtin;refine wpList_appendRB rfl _ _ _ _ rfl lbrt (by decide) 0 _ rfl l.length (bv l) HOW.out _ rfl [x].length (bv [x]) HSR.out HLEN.out HL2.out (Nat.zero_le _) ?_;intro v' w2 ho0 hbb hg hv;obtain ⟨A2,c2,rfl⟩:=(Rd.of_own ho0).form;obtain ⟨d0,d1,f1,HW⟩:=HP.out _ _ _ _ (by unfold OwnB;rw [bv_append];rw [List.length_append];exact ho0) hg hv;clear ho0 hg hv)
 go_ret
 obtain ⟨F',k1,k2⟩:=HW.out
 exact ⟨rfl,F',k1,⟨(HFR.out.trans HAL.out (fun j e=>.inl e)).trans k2.fr (fun j e=>.inl e),fun k e=>(k2.new k e).elim .inl (fun q=>.inr (Nat.le_trans (HSZ.out ▸ HAL.out.size) q))⟩⟩
end Go.Proofs.YtpcpaoeajcjoiaaGreatDoor
