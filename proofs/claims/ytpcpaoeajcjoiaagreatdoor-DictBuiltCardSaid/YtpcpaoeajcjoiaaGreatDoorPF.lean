/- Texts joined, what is not reached left out. -/
import Derived.Test.YtpcpaoeajcjoiaaGreatDoorPE
import Derived.Deep.MidRow
import Derived.Deep.WholeRow
set_option linter.unusedVariables false
set_option linter.unusedSimpArgs false
namespace Go.Proofs.YtpcpaoeajcjoiaaGreatDoor
open Go.RowKit Kit
theorem own_set {w:World} {base:Nat} {e:TypeId} {size g cap n i:Nat} {xs:List Value} {u:Value} (h:w.ownsRow base e size (.slice (some ⟨g,0,none⟩) n cap) n xs) (hi:i < n * size):(w.setCell ⟨g,i,none⟩ u).ownsRow base e size (.slice (some ⟨g,0,none⟩) n cap) n (xs.set i u):=by
 obtain ⟨h1,h2⟩:=h
 refine ⟨by rw [List.length_set];exact h1,?_⟩
 rcases h2 with ⟨h2,_⟩ | ⟨g',cap',cur,h3,h4,h5,h6,h7,h8,h9⟩
 ·cases h2
 ·injection h3 with a1 a2 a3
  injection a1 with a1
  injection a1 with a1 _ _
  subst a1 a3
  refine .inr ⟨g,cap,cur.setIfInBounds i u,rfl,h4,?_,h6,h7,by rw [Array.size_setIfInBounds];exact h8,?_⟩
  ·exact (show Bk w g e cur from h5).set i u
  ·rw [Array.toList_setIfInBounds,List.take_set,h9]
theorem Im.arg_nil (j:Nat) (a:List (List UInt8)):Im.arg [] j a = []:=by simp [Im.arg]
theorem Im.arg_zero (x:L6.Line) (t:List L6.Line) (a:List (List UInt8)):Im.arg (x :: t) 0 a = ⟨x.labels,x.word,a⟩ :: t:=by simp [Im.arg]
theorem Im.arg_succ (x:L6.Line) (t:List L6.Line) (j:Nat) (a:List (List UInt8)):Im.arg (x :: t) (j+1) a = x :: Im.arg t j a:=by simp [Im.arg]
theorem Im.arg_len (o:List L6.Line) (j:Nat) (a:List (List UInt8)):(Im.arg o j a).length = o.length:=by simp [Im.arg]
theorem F8.Ls.setArg {R:Value→List (List UInt8)→Prop} {va:Value} {a:List (List UInt8)} (ha:R va a):∀ {ls:List L6.Line} {cs:List Value} (j:Nat),F8.Ls R ls cs→F8.Ls R (Im.arg ls j a) (cs.set (3 * j+2) va)
 | [],cs,j,h=>by
  have h:cs = []:=h
  subst h
  rw [Im.arg_nil]
  rfl
 | x :: t,cs,j,⟨vl,v,r,e,h1,h2,h3⟩=>by
  subst e
  cases j with
  | zero=>rw [Im.arg_zero];exact ⟨vl,va,r,rfl,h1,ha,h3⟩
  | succ j=>
   rw [Im.arg_succ]
   refine ⟨vl,v,r.set (3 * j+2) va,?_,h1,h2,F8.Ls.setArg ha j h3⟩
   rw [show 3 * (j+1)+2 = (3 * j+2)+1+1+1 by omega,List.set_cons_succ,List.set_cons_succ,List.set_cons_succ]
theorem F8.Ls.argAt {R:Value→List (List UInt8)→Prop}:∀ {ls:List L6.Line} {cs:List Value} (j:Nat),F8.Ls R ls cs→j < ls.length→∃ va a,cs[3 * j+2]? = some va∧R va a
 | [],_,j,_,hj=>absurd hj (by simp)
 | x :: t,cs,j,⟨vl,v,r,e,h1,h2,h3⟩,hj=>by
  subst e
  cases j with
  | zero=>exact ⟨v,x.args,rfl,h2⟩
  | succ j=>
   obtain ⟨va,a,k1,k2⟩:=F8.Ls.argAt j h3 (by simpa using hj)
   refine ⟨va,a,?_,k2⟩
   rw [show 3 * (j+1)+2 = (3 * j+2)+1+1+1 by omega,List.getElem?_cons_succ,List.getElem?_cons_succ,List.getElem?_cons_succ]
   exact k1
def Im.withOut (o:List L6.Line) (S:Im.St):Im.St:=⟨o,S.list,S.last,S.opn,S.asks⟩
theorem Im.Mk.setArg {F:Nat→Prop} {W:World} {gm:Nat} {S:Im.St} (h:Im.Mk F W gm S) {j:Nat} (hj:j < S.out.length) :
  ∃ g c,W.cell? ⟨gm,0,none⟩ = some (.slice (some ⟨g,0,none⟩) S.out.length c)∧(∀ W',Below W.heap.size W W'→W'.cell? ⟨gm,0,none⟩ = some (.slice (some ⟨g,0,none⟩) S.out.length c)∧∃ u,W'.cell? ⟨g,3 * j+2,none⟩ = some u∧W'.frozen? ⟨g,3 * j+2,none⟩ = false) ∧
   ∀ W' va a,Below W.heap.size W W'→As.Rs F W' va a→Im.Mk F (W'.setCell ⟨g,3 * j+2,none⟩ va) gm (Im.withOut (Im.arg S.out j a) S)∧Step F W F (W'.setCell ⟨g,3 * j+2,none⟩ va)∧(W'.setCell ⟨g,3 * j+2,none⟩ va).heap[gm]? = W.heap[gm]?:=by
 obtain ⟨vo,vk,cs,h1,h2,h3,h4,h5,h6⟩:=h.obj
 have h2':=h2
 obtain ⟨q1,q2⟩:=h2'
 rcases q2 with ⟨_,q2⟩ | ⟨g,cap,cur,rfl,_,hh,hn,hm,hs,ht⟩
 ·omega
 ·have hF:F g:=h5 g rfl
  obtain ⟨va0,a0,ka,ra⟩:=F8.Ls.argAt j h3 hj
  obtain ⟨A0,c0,e0⟩:=ra.1.form
  have hcell:W.cell? ⟨g,3 * j+2,none⟩ = some va0:=by
   rw [(show Bk W g _ cur from hh).cell]
   rw [← ht,List.getElem?_take_of_lt (by omega)] at ka
   simpa using ka
  refine ⟨g,cap,(h1.cell 0).trans (Im.cell_out S _ vk),fun W' hb=>⟨((h1.kept hb).cell 0).trans (Im.cell_out S _ vk),va0,((show Bk W g _ cur from hh).kept hb).cell _ |>.trans (((show Bk W g _ cur from hh).cell _).symm.trans hcell),((show Bk W g _ cur from hh).kept hb).free _⟩,fun W' va a hb hv=>?_⟩
  have hk:=h.kept hb
  have hc':W'.cell? ⟨g,3 * j+2,none⟩ = some (.slice A0 a0.length c0):=(((show Bk W g _ cur from hh).kept hb).cell _).trans (((show Bk W g _ cur from hh).cell _).symm.trans (hcell.trans (by rw [e0])))
  have hne:gm ≠ g:=fun e=>by
   subst e
   have hh2:W.heap[gm]? = some (.cells cur 105 (0,0)):=hh
   have h12:W.heap[gm]? = some (.cells (Im.cells S _ vk).toArray 124 (0,0)):=h1
   rw [hh2] at h12
   injection h12 with h12
   injection h12 with _ h12 _
   exact absurd h12 (by decide)
  have hbut:=But.setCell W' g (3 * j+2) va
  have hst:Step F W F (W'.setCell ⟨g,3 * j+2,none⟩ va):=(Step.of_below hb).trans ⟨Fr.of_but hbut hF,fun k hk=>.inl hk⟩
  refine ⟨⟨⟨.slice (some ⟨g,0,none⟩) S.out.length cap,vk,cs.set (3 * j+2) va,hbut.bk (h1.kept hb) hne,?_,?_,?_,h5,h6⟩,h.last,h.list,h.gm,fun k hk'=>by rw [Im.size_set];exact hk.lt k hk'⟩,hst,(hbut.block (h1.kept hb).lt hne).trans (hb.block _ h1.lt)⟩
  ·show World.ownsRow _ 0 _ 3 (.slice (some ⟨g,0,none⟩) S.out.length cap) (Im.arg S.out j a).length _
   rw [Im.arg_len]
   exact own_set (own_kept h2 hb) (by omega)
  ·exact F8.Ls.setArg (hv.setS hc' va) j (h3.map fun v l hr=>((hr.step (Step.of_below hb)).setS hc' va))
  ·exact own_but (own_kept h4 hb) ((show Bk W g _ cur from hh).kept hb) (by decide) hbut
theorem Im.run_half (cs:Array Value) (i:Nat) (hi:i < 2) (hs:cs.size = 32) (w:World):(Instr.index 122 (.agg cs) (.int .i64 (i:Int))).run Tryz.prog w = .ok (.agg (cs.extract (i * 16) (i * 16+16))) w:=by
 have h1:(0≤(i:Int)∧(i:Int) < 2):=by omega
 have hu:=Tryz.underlying122
 have hz:(sizeOf 121).run Tryz.prog w = .ok 16 w:=by kernel_rfl
 have ha:(isAgg 121).run Tryz.prog w = .ok true w:=by kernel_rfl
 simp only [Instr.index,asIntOf,Sem.run_bind,Sem.run_pure,Result.andThen_ok,run_underlying hu,hz]
 rw [if_pos (by simpa using h1)]
 simp [part,Sem.run_bind,Sem.run_pure,Result.andThen_ok,hz,ha]
theorem Im.run_cell (cs:Array Value) (i:Nat) (hi:i < 16) (hs:cs.size = 16) (w:World):(Instr.index 121 (.agg cs) (.int .i64 (i:Int))).run Tryz.prog w = .ok (cs[i]'(by omega)) w:=by
 have h1:(0≤(i:Int)∧(i:Int) < 16):=by omega
 have hu:=Tryz.underlying121
 have hz:(sizeOf 9).run Tryz.prog w = .ok 1 w:=by kernel_rfl
 have ha:(isAgg 9).run Tryz.prog w = .ok false w:=by kernel_rfl
 simp only [Instr.index,asIntOf,Sem.run_bind,Sem.run_pure,Result.andThen_ok,run_underlying hu,hz]
 rw [if_pos (by simpa using h1)]
 have he:cs[i]? = some (cs[i]'(by omega)):=Array.getElem?_eq_getElem (by omega)
 simp [part,Sem.run_bind,Sem.run_pure,Result.andThen_ok,hz,ha]
 rw [he]
 rfl
theorem Im.fillK_len (last:List (List UInt8)) (at_:Nat):∀ (k:Nat) (o:List L6.Line),(Im.fillK last at_ k o).length = o.length
 | 0,o=>rfl
 | k+1,o=>by
  show (Im.arg (Im.fillK last at_ k o) (at_+k) _).length = _
  rw [Im.arg_len,Im.fillK_len last at_ k o]
theorem Im.fillL_len (last:List (List UInt8)):∀ (l:List Nat) (o:List L6.Line),(Im.fillL last l o).length = o.length
 | [],o=>rfl
 | a :: r,o=>by
  show (Im.fillL last r (Im.fillK last a 32 o)).length = _
  rw [Im.fillL_len last r,Im.fillK_len]
theorem Im.fillL_snoc (last:List (List UInt8)) (a:Nat):∀ (l:List Nat) (o:List L6.Line),Im.fillL last (l ++ [a]) o = Im.fillK last a 32 (Im.fillL last l o)
 | [],o=>rfl
 | b :: r,o=>by
  show Im.fillL last (r ++ [a]) (Im.fillK last b 32 o) = _
  rw [Im.fillL_snoc last a r]
  rfl
theorem Im.fillL_next (last:List (List UInt8)) (l:List Nat) (o:List L6.Line) (k:Nat) (hk:k < l.length):Im.fillL last (l.take (k+1)) o = Im.fillK last (l.getD k 0) 32 (Im.fillL last (l.take k) o):=by
 rw [List.take_add_one,List.getElem?_eq_getElem hk,Option.toList_some,Im.fillL_snoc,List.getD_eq_getElem?_getD,List.getElem?_eq_getElem hk,Option.getD_some]
def Im.lastV (S:Im.St):List Value:=S.last.map fun s=>Value.string ⟨s.toArray⟩
theorem Im.lastV_len (S:Im.St) (h:S.last.length = 32):(Im.lastV S).length = 32:=by unfold Im.lastV;rw [List.length_map,h]
theorem Im.last_range {W:World} {gm:Nat} {S:Im.St} {vo va:Value} (h:Bk W gm 124 (Im.cells S vo va).toArray) (hl:S.last.length = 32):W.rangeAt gm 2 (Im.lastV S):=by
 intro j v hv
 have hj:j < 32:=by
  have:=(List.getElem?_eq_some_iff.1 hv).1
  rw [Im.lastV_len S hl] at this
  exact this
 rw [h.cell (2+j),Im.cell_last S vo va hl j hj]
 unfold Im.lastV at hv
 rw [List.getElem?_map] at hv
 rw [List.getD_eq_getElem?_getD]
 rw [List.getElem?_eq_getElem (by omega)] at hv ⊢
 injection hv with hv
 rw [← hv]
 rfl
theorem Im.half_at (S:Im.St) (h:S.last.length = 32) (i j:Nat) (hi:i < 2) (hj:j < 16) (H:Array Value) (e:(Im.lastV S).toArray.extract (i * 16) (i * 16+16) = H):H[j]? = some (.string ⟨(S.last.getD (i * 16+j) []).toArray⟩):=by
 subst e
 have h32:=Im.lastV_len S h
 rw [Array.getElem?_extract_of_lt (by simp;omega)]
 simp [Im.lastV,List.getElem?_eq_getElem (show i * 16+j < S.last.length by omega)]
theorem Im.half_size (S:Im.St) (h:S.last.length = 32) (i:Nat) (hi:i < 2) (H:Array Value) (e:(Im.lastV S).toArray.extract (i * 16) (i * 16+16) = H):H.size = 16:=by
 subst e
 have h32:=Im.lastV_len S h
 simp
 omega
theorem Im.half_one (S:Im.St) (h:S.last.length = 32) (i:Nat) (hi:i < 2) (H:Array Value) (e:(Im.lastV S).toArray.extract (i * 16) (i * 16+16) = H):H.all (·.oneCell') = true:=by
 rw [Array.all_eq_true]
 intro j hj
 have hs:=Im.half_size S h i hi H e
 have:=Im.half_at S h i j hi (by omega) H e
 rw [Array.getElem?_eq_getElem hj] at this
 injection this with this
 rw [this]
 rfl
theorem Im.asks_at {W:World} {gm:Nat} {F:Nat→Prop} {S S0:Im.St} {vo:Value} {A:Option Addr} {n c k:Nat} (h:Im.Mk F W gm S) (hb:Bk W gm 124 (Im.cells S0 vo (.slice A n c)).toArray) (hl:S0.last.length = 32) (ha:S.asks = S0.asks) (hk:k < S0.asks.length) :
  ∃ g off,A = some ⟨g,off,none⟩∧W.cell? ⟨g,off+k,none⟩ = some (.int .i64 ((S0.asks.getD k 0:Nat):Int)):=by
 obtain ⟨vo2,va2,cs,h1,h2,h3,h4,h5,h6⟩:=h.obj
 have e1:=(h1.cell 35).trans (Im.cell_asks S vo2 va2 h.last)
 have e2:=(hb.cell 35).trans (Im.cell_asks S0 vo _ hl)
 rw [e1] at e2
 injection e2 with e2
 subst e2
 obtain ⟨q1,A',c',e,q2,q3,q4⟩:=Rd.of_own h4
 injection e with e4 _ _
 obtain ⟨g,off,e5,hg,hc⟩:=q4 (by rw [ha];omega)
 refine ⟨g,off,e4.trans e5,?_⟩
 refine hc k _ ?_
 unfold Im.askC
 rw [List.getElem?_map,ha,List.getElem?_eq_getElem hk,List.getD_eq_getElem?_getD,List.getElem?_eq_getElem hk]
 rfl
theorem Im.wrap_nat (n:Nat) (h:n < 4611686018427387904):IntKind.i64.wrap (n:Int) = n:=by
 rw [IntKind.wrap_i64]
 omega
theorem Im.fill_idx {at_ j m N L:Nat} (h:at_+32≤L) (hL:L≤1000000) (hj:j < 2) (hm:m < 16) (hN:at_+(j * 16+m) = N):∃ J AJ:Int,IntKind.i64.wrap ((j:Int) * 16) = J∧IntKind.i64.wrap ((at_:Int)+J) = AJ∧IntKind.i64.wrap (AJ+(m:Int)) = (N:Int):=by
 have h1:=Im.wrap_nat (j * 16) (by omega)
 have h2:=Im.wrap_nat (at_+j * 16) (by omega)
 have h3:=Im.wrap_nat N (by omega)
 refine ⟨((j * 16:Nat):Int),((at_+j * 16:Nat):Int),?_,?_,?_⟩
 ·rw [← h1];congr 1
 ·rw [← h2];congr 1
 ·rw [← h3]
  congr 1
  omega
set_option maxRecDepth 100000 in
set_option maxHeartbeats 8000000 in
theorem ifill_any {F:Nat→Prop} {w:World} {gm:Nat} {S:Im.St} (h:Im.Mk F w gm S) (ho:S.out.length≤1000000) (hk:∀ a ∈ S.asks,a+32≤S.out.length) (hal:S.asks.length≤1000000) :
  Calls Tryz.prog 53 #[.pointer (some ⟨gm,0,none⟩)] w fun e w'=>e = .returned (.tuple #[])∧Im.To F w gm (Im.withOut (Im.fill S) S) w':=by
 have HM0:=Lib.hid h
 obtain ⟨vo,vk,cs,h1,h2,h3,h4,h5,h6⟩:=h.obj
 have ka:=(h1.cell 35).trans (Im.cell_asks S vo vk h.last)
 obtain ⟨Aa,ca,rfl⟩:=(Rd.of_own h4).form
 have HGM:=Lib.hid h1
 have HLA:=Lib.hid h.last
 have HKA:=Lib.hid hk
 have HOL:=Lib.hid ho
 have HAL:=Lib.hid hal
 clear h h1 h2 h3 h4 h5 h6 ho hk hal
 go_enter Tryz.func53,Tryz.ntmps53
 go_wp2_with fail
 clear ka
 go_loopw [13] (fun i wr=>∃ (k:Nat) (F':Nat→Prop),i = .int .i64 (k:Int)∧k≤S.asks.length∧Im.Mk F' wr gm (Im.withOut (Im.fillL S.last (S.asks.take k) S.out) S)∧Step F w F' wr∧Bk wr gm 124 (Im.cells S vo (.slice Aa S.asks.length ca)).toArray) (fun i _=>S.asks.length - (intOf i).toNat)
 case atStart=>exact ⟨0,F,rfl,Nat.zero_le _,HM0.out,Step.refl F w,HGM.out⟩
 case round=>
  obtain ⟨k,F1,rfl,hk,hm,hst,hbk⟩:=hrel
  by_cases hlt:k < S.asks.length
  ·obtain ⟨g,off,rfl,hc⟩:=Im.asks_at hm hbk HLA.out rfl hlt
   have HNX:=Lib.hid (Im.fillL_next S.last S.asks S.out k hlt)
   have HAT:=Lib.hid (show S.asks.getD k 0+32≤S.out.length from HKA.out _ (by rw [List.getD_eq_getElem?_getD,List.getElem?_eq_getElem hlt,Option.getD_some];exact List.getElem_mem _))
   generalize S.asks.getD k 0 = at_ at *
   have HLO:=Lib.hid (show (Im.fillL S.last (S.asks.take k) S.out).length = S.out.length from Im.fillL_len _ _ _)
   generalize Im.fillL S.last (S.asks.take k) S.out = O at *
   have HR:=Lib.hid (Im.last_range hbk HLA.out)
   have HM1:=Lib.hid hm
   have HS1:=Lib.hid hst
   have HB1:=Lib.hid hbk
   have HN:=Lib.hid (show (Tryz.prog.info? 122).map (·.size) = some (Im.lastV S).length by rw [Im.lastV_len S HLA.out];kernel_rfl)
   obtain ⟨LL,hLL⟩:∃ a,Im.lastV S = a:=⟨_,rfl⟩
   rw [hLL] at HR HN
   have HLL:=Lib.hid hLL
   clear hm hst hbk hLL
   go_wp2_with (refine wpList_load_mid (by rfl) _ _ (by rfl) gm 2 (by rfl) LL _ HR.out Tryz.underlying122 rfl HN.out ?_)
   obtain ⟨w1,hw1⟩:∃ a,wr = a:=⟨_,rfl⟩
   rw [hw1] at HM1 HS1 HB1 hc
   rw [hw1]
   clear hw1 HR HN hc
   go_loopw [21] (fun i wy=>∃ (j:Nat) (F2:Nat→Prop),i = .int .i64 (j:Int)∧j≤2∧Im.Mk F2 wy gm (Im.withOut (Im.fillK S.last at_ (j * 16) O) S)∧Step F w F2 wy∧Bk wy gm 124 (Im.cells S vo (.slice (some ⟨g,off,none⟩) S.asks.length ca)).toArray) (fun i _=>2 - (intOf i).toNat)
   case atStart=>exact ⟨0,F1,rfl,by omega,HM1.out,HS1.out,HB1.out⟩
   case round=>
    obtain ⟨j,F2,rfl,hj,hm2,hst2,hbk2⟩:=hrel
    have HM2:=Lib.hid hm2
    have HS2:=Lib.hid hst2
    have HB2:=Lib.hid hbk2
    clear hm2 hst2 hbk2
    by_cases hlt2:j < 2
    ·have j2:(j:Int) < 2:=by omega
     have j3:¬ (2:Int)≤j:=by omega
     have j4:¬ (j:Int) < 0:=by omega
     obtain ⟨H,hH⟩:∃ a,LL.toArray.extract (j * 16) (j * 16+16) = a:=⟨_,rfl⟩
     rw [← HLL.out] at hH
     have hHs:=Im.half_size S HLA.out j hlt2 H hH
     have hone:=Im.half_one S HLA.out j hlt2 H hH
     have HAT2:=Lib.hid (fun i (hi:i < 16)=>Im.half_at S HLA.out j i hlt2 hi H hH)
     have hI:∀ W,(Instr.index 122 (.agg LL.toArray) (.int .i64 (j:Int))).run Tryz.prog W = .ok (.agg H) W:=fun W=>by
      rw [← hH,HLL.out]
      exact Im.run_half _ j hlt2 (by rw [← HLL.out];exact Im.lastV_len S HLA.out) W
     have hST:∀ W:World,(storeCells ⟨W.heap.size,0,none⟩ H.toList 0).run Tryz.prog (W.alloc (.cells #[.string ⟨#[]⟩,.string ⟨#[]⟩,.string ⟨#[]⟩,.string ⟨#[]⟩,.string ⟨#[]⟩,.string ⟨#[]⟩,.string ⟨#[]⟩,.string ⟨#[]⟩,.string ⟨#[]⟩,.string ⟨#[]⟩,.string ⟨#[]⟩,.string ⟨#[]⟩,.string ⟨#[]⟩,.string ⟨#[]⟩,.string ⟨#[]⟩,.string ⟨#[]⟩] 121)) = .ok () (W.alloc (.cells H 121)):=fun W=>
      run_storeCells_new W _ _ H (by rw [hHs];kernel_rfl) (by rw [hHs];rfl) hone
     have HRH:=Lib.hid (show (wr.alloc (.cells H 121)).rangeAt wr.heap.size 0 H.toList from fun i v hv=>by
      rw [Nat.zero_add,(Bk.fresh wr 121 H).cell i]
      simpa using hv)
     have HNH:=Lib.hid (show (Tryz.prog.info? 121).map (·.size) = some H.toList.length by rw [Array.length_toList,hHs];kernel_rfl)
     have HHS:=Lib.hid hHs
     clear hH hone hHs
     go_wp2_with (refine wpList_load_mid (by rfl) 121 _ (by rfl) wr.heap.size 0 (by rfl) H.toList _ HRH.out Tryz.underlying121 rfl HNH.out ?_)
     have HM3:=Lib.hid (HM2.out.kept (Im.alloc_below wr (.cells H 121)))
     have HS3:=Lib.hid (HS2.out.trans (Step.of_below (Im.alloc_below wr (.cells H 121))))
     have HB3:=Lib.hid (HB2.out.kept (Im.alloc_below wr (.cells H 121)))
     obtain ⟨w2,hw2⟩:∃ a,wr.alloc (.cells H 121) = a:=⟨_,rfl⟩
     rw [hw2] at HM3 HS3 HB3
     rw [hw2]
     clear hw2 HRH HNH hST hI
     generalize wr.heap.size = gz at *
     go_loopw [26] (fun i wy=>∃ (m:Nat) (F3:Nat→Prop),i = .int .i64 (m:Int)∧m≤16∧Im.Mk F3 wy gm (Im.withOut (Im.fillK S.last at_ (j * 16+m) O) S)∧Step F w F3 wy∧Bk wy gm 124 (Im.cells S vo (.slice (some ⟨g,off,none⟩) S.asks.length ca)).toArray) (fun i _=>16 - (intOf i).toNat)
     case atStart=>exact ⟨0,_,rfl,by omega,HM3.out,HS3.out,HB3.out⟩
     case round=>
      obtain ⟨m,F3,rfl,hm16,hm3,hst3,hbk3⟩:=hrel
      have HM4:=Lib.hid hm3
      have HS4:=Lib.hid hst3
      have HB4:=Lib.hid hbk3
      clear hm3 hst3 hbk3
      by_cases hlt3:m < 16
      ·have m2:(m:Int) < 16:=by omega
       have m3:¬ (16:Int)≤m:=by omega
       have m4:¬ (m:Int) < 0:=by omega
       have hcell:∀ W,(Instr.index 121 (.agg H) (.int .i64 (m:Int))).run Tryz.prog W = .ok (.string ⟨(S.last.getD (j * 16+m) []).toArray⟩) W:=fun W=>by
        rw [Im.run_cell H m hlt3 HHS.out W]
        have h1:=HAT2.out m hlt3
        rw [Array.getElem?_eq_getElem (by rw [HHS.out];exact hlt3)] at h1
        injection h1 with h1
        rw [h1]
       have CEI:=Lib.hid (fun W=>ieither_any (S.last.getD (j * 16+m) []) W)
       have HJ:=Lib.hid (show at_+(j * 16+m) < (Im.fillK S.last at_ (j * 16+m) O).length by rw [Im.fillK_len,HLO.out];have:=HAT.out;omega)
       have HSTEP:=Lib.hid (show Im.arg (Im.fillK S.last at_ (j * 16+m) O) (at_+(j * 16+m)) [Im.either (S.last.getD (j * 16+m) [])] = Im.fillK S.last at_ (j * 16+(m+1)) O from rfl)
       have HLK:=Lib.hid (show (Im.fillK S.last at_ (j * 16+m) O).length = S.out.length by rw [Im.fillK_len,HLO.out])
       generalize Im.fillK S.last at_ (j * 16+m) O = OK at *
       generalize S.last.getD (j * 16+m) [] = sl at *
       generalize Im.either sl = el at *
       obtain ⟨gO,cO,qo,qk,qset⟩:=HM4.out.setArg HJ.out
       have hlen:(Im.withOut OK S).out.length = S.out.length:=HLK.out
       rw [hlen] at qo
       have QSET:=Lib.hid qset
       have hal:Below wr.heap.size wr (wr.alloc (.cells #[.string ⟨el.toArray⟩] 9)):=Im.alloc_below wr _
       obtain ⟨qa,u0,qb,qc⟩:=qk _ hal
       rw [hlen] at qa
       obtain ⟨N,hN⟩:∃ N,at_+(j * 16+m) = N:=⟨_,rfl⟩
       have hNl:N < S.out.length:=by rw [← hN,← HLK.out];exact HJ.out
       have hO:=HOL.out
       rw [hN] at qb qc QSET HSTEP
       have b1:¬ (S.out.length:Int)≤(N:Int):=by omega
       have b2:(N:Int) < (S.out.length:Int):=by omega
       obtain ⟨J,AJ,hJ,hAJ,hX⟩:=Im.fill_idx HAT.out hO hlt2 hlt3 hN
       have HX:=Lib.hid (show IntKind.i64.wrap ((j:Int) * 16) = J∧IntKind.i64.wrap ((at_:Int)+J) = AJ∧IntKind.i64.wrap (AJ+(m:Int)) = (N:Int) from ⟨hJ,hAJ,hX⟩)
       rw [Nat.mul_comm 3 N] at qb qc QSET
       clear qk qset hlen hal hO hNl hN hJ hAJ hX
       have HNEW:=Lib.hid (show Im.Mk F3 ((wr.alloc (.cells #[.string ⟨el.toArray⟩] 9)).setCell ⟨gO,N * 3+2,none⟩ (.slice (some ⟨wr.heap.size,0,none⟩) 1 1)) gm (Im.withOut (Im.fillK S.last at_ (j * 16+(m+1)) O) S)∧Step F w F3 ((wr.alloc (.cells #[.string ⟨el.toArray⟩] 9)).setCell ⟨gO,N * 3+2,none⟩ (.slice (some ⟨wr.heap.size,0,none⟩) 1 1))∧Bk ((wr.alloc (.cells #[.string ⟨el.toArray⟩] 9)).setCell ⟨gO,N * 3+2,none⟩ (.slice (some ⟨wr.heap.size,0,none⟩) 1 1)) gm 124 (Im.cells S vo (.slice (some ⟨g,off,none⟩) S.asks.length ca)).toArray from by
        obtain ⟨z1,z2,z3⟩:=QSET.out (wr.alloc (.cells #[.string ⟨el.toArray⟩] 9)) (.slice (some ⟨wr.heap.size,0,none⟩) 1 1) [el] (Im.alloc_below wr _) ⟨Im.rd_one _ el,fun g' off' n' c' e' hn' hg'=>by
         injection e' with e1 _ _
         injection e1 with e1
         injection e1 with e1 _ _
         have:=HM4.out.lt g' hg'
         omega⟩
        rw [show Im.arg (Im.withOut OK S).out N [el] = Im.fillK S.last at_ (j * 16+(m+1)) O from HSTEP.out] at z1
        exact ⟨z1,HS4.out.trans z2,z3.trans HB4.out⟩)
       go_upto_region 9 with fail
       obtain ⟨xw1,xw2,xw3⟩:=HX.out
       have hw1:IntKind.i64.wrap ((m:Int)+1) = (m:Int)+1:=by rw [IntKind.wrap_i64];omega
       go_region_law (go_simp;go_at_call 109;refine (CEI.out _).mono ?_;rintro e w5 ⟨rfl,rfl⟩)
       all_goals go_wp2_with fail
       all_goals go_roundw
       all_goals first
        | exact ⟨m+1,F3,by go_num,by omega,HNEW.out.1.kept (Below.refl _ _).drew,HNEW.out.2.1.trans (Step.of_below (Below.refl _ _).drew),HNEW.out.2.2.kept (Below.refl _ _).drew⟩
        | (simp [intOf];omega)
      ·obtain rfl:m = 16:=by omega
       have hw1:IntKind.i64.wrap ((j:Int)+1) = (j:Int)+1:=by clear HM4 HS4 HB4;rw [IntKind.wrap_i64];omega
       have m2:¬ ((16:Nat):Int) < 16:=by decide
       rw [show j * 16+16 = (j+1) * 16 by omega] at HM4
       go_wp2_with fail
       go_roundw
       case rel=>exact ⟨j+1,F3,by go_num,by omega,HM4.out,HS4.out,HB4.out⟩
       case measure=>simp [intOf];omega
    ·obtain rfl:j = 2:=by omega
     have hw1:IntKind.i64.wrap ((k:Int)+1) = (k:Int)+1:=by have:=HAL.out;rw [IntKind.wrap_i64];omega
     have j2:¬ ((2:Nat):Int) < 2:=by decide
     have HM4:=Lib.hid (show Im.Mk F2 wr gm (Im.withOut (Im.fillL S.last (S.asks.take (k+1)) S.out) S) by rw [HNX.out];exact HM2.out)
     go_wp2_with fail
     go_roundw
     case rel=>exact ⟨k+1,F2,by go_num,by omega,HM4.out,HS2.out,HB2.out⟩
     case measure=>simp [intOf];omega
  ·have HM4:=Lib.hid (show Im.Mk F1 wr gm (Im.withOut (Im.fill S) S) by
    rw [List.take_of_length_le (by omega)] at hm
    exact hm)
   have k2:¬ (k:Int) < (S.asks.length:Int):=by omega
   have HS4:=Lib.hid hst
   clear hm hst hbk
   go_wp2_with fail
   go_end0
   exact ⟨rfl,F1,HM4.out,HS4.out⟩
end Go.Proofs.YtpcpaoeajcjoiaaGreatDoor
namespace Go.Proofs.YtpcpaoeajcjoiaaGreatDoor
def Im.Room (S:Im.St):Prop:=∀ q ∈ S.asks,q+32≤S.out.length
theorem Im.Room.grow {S S':Im.St} (h:Im.Room S) (ha:S'.asks = S.asks) (ho:S.out.length≤S'.out.length):Im.Room S':=fun q hq=>by
 rw [ha] at hq
 have:=h q hq
 omega
theorem Im.Room.end_ {S:Im.St} (h:Im.Room S):Im.Room (Im.end_ S):=by
 refine h.grow (Im.asks_end S) ?_
 unfold Im.end_
 split
 ·exact Nat.le_refl _
 ·show S.out.length≤(S.out ++ [_]).length
  simp
theorem Im.Room.heads {S:Im.St} (h:Im.Room S) (ls:List (List UInt8)):Im.Room (Im.puts (Im.heads ls) (Im.ask S)):=fun q hq=>by
 have hq:q ∈ S.asks ++ [S.out.length]:=hq
 show q+32≤(S.out ++ Im.heads ls).length
 rw [List.length_append,Im.heads_len]
 rcases List.mem_append.1 hq with hq | hq
 ·have:=h q hq;omega
 ·rw [List.mem_singleton.1 hq];omega
theorem Im.line_room {x:L6.Line} {S S':Im.St} (h:Im.Room S) (e:Im.line x S = .ok S'):Im.Room S':=by
 have he:=h.end_
 unfold Im.line at e
 split at e
 ·split at e
  ·injection e with e;subst e
   exact h.grow rfl (by show S.out.length≤(S.out ++ [_]).length;simp)
  ·split at e
   ·injection e with e;subst e
    exact h.grow rfl (by show S.out.length≤(S.out ++ [_]).length;simp)
   ·cases e
 ·split at e
  ·split at e
   ·cases e
   ·split at e
    ·cases e
    ·injection e with e;subst e
     refine he.grow rfl ?_
     show (Im.end_ S).out.length≤(((Im.end_ S).out ++ Im.defs _ _ _ _ _) ++ [_]).length
     simp
  ·split at e
   ·split at e
    ·cases e
    ·split at e
     ·cases e
     ·injection e with e;subst e
      refine he.grow rfl ?_
      show (Im.end_ S).out.length≤(((Im.end_ S).out ++ [_,_]) ++ [_]).length
      simp
   ·split at e
    ·split at e
     ·cases e
     ·injection e with e;subst e
      exact he.heads _
    ·split at e
     ·cases e
     ·injection e with e;subst e
      exact h.grow rfl (by show S.out.length≤(S.out ++ [_]).length;simp)
theorem Im.run_room:∀ (ls:List L6.Line) {S S':Im.St},Im.Room S→Im.run S ls = .ok S'→Im.Room S'
 | [],S,S',h,e=>by injection e with e;subst e;exact h
 | x :: r,S,S',h,e=>by
  rw [Im.run] at e
  cases hl:Im.line x S with
  | bad n=>rw [hl] at e;cases e
  | ok S1=>
   rw [hl] at e
   exact Im.run_room r (Im.line_room h hl) e
theorem Im.room_start:Im.Room Im.start:=fun q hq=>by cases hq
theorem Im.run_app:∀ (A B:List L6.Line) (S:Im.St),Im.run S (A ++ B) = match Im.run S A with | .bad e=>.bad e | .ok S1=>Im.run S1 B
 | [],B,S=>rfl
 | x :: r,B,S=>by
  rw [List.cons_append,Im.run,Im.run]
  cases Im.line x S with
  | bad e=>rfl
  | ok S1=>exact Im.run_app r B S1
theorem Im.run_take {ls:List L6.Line} {S S1 S2:Im.St} {k:Nat} (hk:k < ls.length) (h1:Im.run S (ls.take k) = .ok S1) (h2:Im.run S ls = .ok S2):∃ S',Im.line ls[k] S1 = .ok S'∧Im.run S (ls.take (k+1)) = .ok S':=by
 have e:ls = ls.take k ++ ls[k] :: ls.drop (k+1):=by rw [← List.drop_eq_getElem_cons hk,List.take_append_drop]
 rw [e,Im.run_app,h1] at h2
 dsimp only at h2
 rw [Im.run] at h2
 cases hl:Im.line ls[k] S1 with
 | bad n=>rw [hl] at h2;cases h2
 | ok S'=>
  refine ⟨S',rfl,?_⟩
  rw [List.take_succ_eq_append_getElem hk,Im.run_app,h1]
  dsimp only
  rw [Im.run,hl]
  rfl
end Go.Proofs.YtpcpaoeajcjoiaaGreatDoor
