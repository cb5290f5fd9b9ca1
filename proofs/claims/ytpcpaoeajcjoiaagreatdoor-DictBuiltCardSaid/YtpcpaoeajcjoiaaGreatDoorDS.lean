/- Texts joined, what is not reached left out. -/
import Derived.Test.YtpcpaoeajcjoiaaGreatDoorDR
import Derived.Deep.RegionHeld3
import Derived.Deep.RegionLaw
import Derived.Test.YtpcpaoeajcjoiaaGreatDoorKX
set_option linter.unusedVariables false
set_option linter.unusedSimpArgs false
namespace Go.Proofs.YtpcpaoeajcjoiaaGreatDoor
open Go.RowKit Kit
theorem rwrt:RowTy Tryz.prog 70 80 7 56:=
 ⟨Tryz.underlying70,by
  have h:(Tryz.prog.info? 80).map (fun i=>(i.zero,i.size,i.bytes)) = some (some (.agg #[.int .i64 0,.int .u32 0,.string ByteArray.empty,.int .i64 0,.int .u32 0,.int .u32 0,.int .u32 0]),7,56):=by kernel_rfl
  obtain ⟨i,h1,h2,h3,h4⟩:=info_parts h
  exact ⟨i,_,h1,h2,h3,h4,by kernel_rfl⟩⟩
theorem Rd.cutAt {P:Program} {t e:TypeId} {size bytes:Nat} (rt:RowTy P t e size bytes) {w:World} {A:Option Addr} {n c:Nat} {xs:List Value} (h:Rd w size (.slice A n c) n xs) (k:Nat) (hk:k≤n) :
  (∃ v1,(∀ (kk:IntKind) W,(Instr.slice t (.slice A n c) none (some (.int kk (k:Int))) none).run P W = .ok v1 W)∧Rd w size v1 k (xs.take (k * size))) ∧
  (∃ v2,(∀ (kk:IntKind) W,(Instr.slice t (.slice A n c) (some (.int kk (k:Int))) none none).run P W = .ok v2 W)∧Rd w size v2 (n - k) (xs.drop (k * size))):=by
 obtain ⟨i,z,hi,hz,hs,hb,hzs⟩:=rt.info
 obtain ⟨hl,A',c',e1,h2,h3,h4⟩:=h
 injection e1 with e1 _ e3
 subst e1 e3
 have helem:P.elem t = e:=by simp [Program.elem,rt.slice]
 have ht:P.underlying t = some (.slice (P.elem t)):=by rw [helem];exact rt.slice
 have hsz:∀ W,(sizeOf (P.elem t)).run P W = .ok size W:=fun W=>by rw [helem];simp [sizeOf,typeInfo,hi,hs]
 have hmul:k * size≤n * size:=Nat.mul_le_mul_right _ hk
 refine ⟨⟨sliced A 0 k c size,fun kk W=>?_,?_⟩,⟨sliced A k n c size,fun kk W=>?_,?_⟩⟩
 ·rw [run_slice_h (w:=W) t _ _ _ ht kk k (by omega) (by omega),hsz]
  simp
 ·refine ⟨by rw [List.length_take];omega,_,_,by unfold sliced;rfl,by omega,by omega,fun hn=>?_⟩
  obtain ⟨g,off,rfl,hg,hc⟩:=h4 (by omega)
  refine ⟨g,off,by rw [if_neg (by omega)];simp [addr_add],hg,fun j u hu=>hc j u ?_⟩
  rw [List.getElem?_take] at hu
  split at hu
  ·exact hu
  ·cases hu
 ·rw [run_slice_l (w:=W) t _ _ _ ht kk k (by omega) (by omega),hsz]
  simp
 ·refine ⟨by rw [List.length_drop,hl,Nat.sub_mul],_,_,by unfold sliced;rfl,by omega,by omega,fun hn=>?_⟩
  obtain ⟨g,off,rfl,hg,hc⟩:=h4 (by omega)
  refine ⟨g,off+k * size,by rw [if_neg (by omega)];simp [addr_add],hg,fun j u hu=>?_⟩
  rw [List.getElem?_drop] at hu
  rw [Nat.add_assoc]
  exact hc _ u hu
theorem Dc.k_next {k n:Nat} (h:k < n) (hn:n≤5000):IntKind.i64.wrap ((k:Int)+1) = (k:Int)+1:=by rw [IntKind.wrap_i64];omega
def Dc.RPost (w : World) (b : List UInt8) (heads : Nat) (e : Ending) (w' : World) : Prop :=
  Below w.heap.size w w' ∧
  ((¬ Dc.fits b heads ∧ e = .returned (.tuple #[.slice none 0 0, .int .i64 1])) ∨
   (Dc.fits b heads ∧ (∀ l, ¬ Dc.Good b heads l) ∧ e = .returned (.tuple #[.slice none 0 0, .int .i64 45])) ∨
   (Dc.fits b heads ∧ ∃ l l' v, Dc.Good b heads l ∧ l'.Perm l ∧ l'.Pairwise (fun x y => x.at_ < y.at_) ∧ e = .returned (.tuple #[v, .int .i64 0]) ∧ RdD w' v l'))
structure Dc.So (W:World) (v:Value) (pre out:List Dc.Wd):Prop where
 rd:RdD W v out
 perm:out.Perm pre
 sorted:out.Pairwise (fun x y=>x.at_ < y.at_)
 most:out.length≤4096
theorem Dc.So.kept {W W':World} {v:Value} {pre out:List Dc.Wd} (h:Dc.So W v pre out) (hb:Below W.heap.size W W'):Dc.So W' v pre out:=⟨Rd.kept h.rd hb,h.perm,h.sorted,h.most⟩
theorem Dc.So.nil (W:World):Dc.So W (.slice none 0 0) [] []:=⟨Rd.nil _ _,.refl _,.nil,by simp⟩
theorem Dc.nodup_sorted {l:List Dc.Wd} (h:l.Pairwise (fun x y=>x.at_ < y.at_)):(l.map Dc.Wd.at_).Nodup:=by
 rw [List.Nodup,List.pairwise_map]
 exact h.imp fun h=>Nat.ne_of_lt h
theorem Dc.So.good {W:World} {v:Value} {pre out:List Dc.Wd} {b:List UInt8} {heads:Nat} (h:Dc.So W v pre out) (ha:Dc.all b heads = some pre):Dc.Good b heads pre:=
 ⟨ha,by rw [← h.perm.length_eq];exact h.most,((h.perm.map _).nodup_iff).1 (Dc.nodup_sorted h.sorted)⟩
theorem Dc.So.put {W W':World} {v v':Value} {pre out:List Dc.Wd} {k:Nat} {x:Dc.Wd} (h:Dc.So W v pre out) (hm:(Dc.ins out k x).length≤4096) (hr:RdD W' v' (Dc.ins out k x)) (hs:(Dc.ins out k x).Pairwise (fun x y=>x.at_ < y.at_)):Dc.So W' v' (pre ++ [x]) (Dc.ins out k x):=by
 refine ⟨hr,?_,hs,hm⟩
 refine (Dc.ins_perm out k x).trans ?_
 refine (List.Perm.cons x h.perm).trans ?_
 exact (List.perm_append_comm (l₁:=[x])).trans (List.Perm.refl _)
theorem Dc.eq_head (s:ByteArray) (fl a b c:Int) (w:World):(Op.equalIn 9999 78 (.agg #[.string s,.int .i64 fl,.int .u32 a,.int .u32 b,.int .u32 c]) (.agg #[.string s,.int .i64 fl,.int .u32 a,.int .u32 b,.int .u32 c])).run Tryz.prog w = .ok true w:=by
 have hS:Tryz.prog.underlying 78 = some (.struct (Tryz.prog.fieldsOf 78)):=by kernel_rfl
 have hP:Tryz.prog.stoodInHeld 78 = false:=by kernel_rfl
 have u9:=Tryz.underlying9
 have u3:=Tryz.underlying3
 have u29:=Tryz.underlying23
 rw [show (9999:Nat) = 9998+1 from rfl,run_equalIn_agg w 9998 78 _ _ hS hP]
 simp only [Program.fieldsOf,Tryz.underlying78]
 go_simp
theorem Dc.neq_word (x:Dc.Wd) (w:World):(binOp .neq 80 (.agg #[.int .i64 (x.list:Int),.int .u32 (x.at_:Int),.string ⟨x.h.name.toArray⟩,.int .i64 (x.h.fl:Int),.int .u32 (x.h.link:Int),.int .u32 (x.h.xt:Int),.int .u32 (x.h.size:Int)]) (.agg #[.int .i64 (x.list:Int),.int .u32 (x.at_:Int),.string ⟨x.h.name.toArray⟩,.int .i64 (x.h.fl:Int),.int .u32 (x.h.link:Int),.int .u32 (x.h.xt:Int),.int .u32 (x.h.size:Int)])).run Tryz.prog w = .ok (.bool false) w:=by
 have hS:Tryz.prog.underlying 80 = some (.struct (Tryz.prog.fieldsOf 80)):=by kernel_rfl
 have hP:Tryz.prog.stoodInHeld 80 = false:=by kernel_rfl
 have hE:=fun W=>Dc.eq_head ⟨x.h.name.toArray⟩ x.h.fl x.h.link x.h.xt x.h.size W
 have hG:∀ W,(part 78 #[.int .i64 (x.list:Int),.int .u32 (x.at_:Int),.string ⟨x.h.name.toArray⟩,.int .i64 (x.h.fl:Int),.int .u32 (x.h.link:Int),.int .u32 (x.h.xt:Int),.int .u32 (x.h.size:Int)] 2).run Tryz.prog W = .ok (.agg #[.string ⟨x.h.name.toArray⟩,.int .i64 (x.h.fl:Int),.int .u32 (x.h.link:Int),.int .u32 (x.h.xt:Int),.int .u32 (x.h.size:Int)]) W:=fun W=>by go_simp
 have u3:=Tryz.underlying3
 have u29:=Tryz.underlying23
 rw [run_neq_struct,show (10000:Nat) = 9999+1 from rfl,run_equalIn_agg w 9999 80 _ _ hS hP]
 simp only [Program.fieldsOf,Tryz.underlying80]
 clear hS hP
 go_simp
def Dc.Cells (W:World) (g off:Nat) (x:Dc.Wd):Prop:=W.cell? ⟨g,off,none⟩ = some (.int .i64 (x.list:Int))∧W.cell? ⟨g,off+1,none⟩ = some (.int .u32 (x.at_:Int))∧W.cell? ⟨g,off+2,none⟩ = some (.string ⟨x.h.name.toArray⟩)∧W.cell? ⟨g,off+3,none⟩ = some (.int .i64 (x.h.fl:Int))∧W.cell? ⟨g,off+4,none⟩ = some (.int .u32 (x.h.link:Int))∧W.cell? ⟨g,off+5,none⟩ = some (.int .u32 (x.h.xt:Int))∧W.cell? ⟨g,off+6,none⟩ = some (.int .u32 (x.h.size:Int))
theorem RdD.cells {W:World} {v:Value} {l:List Dc.Wd} (h:RdD W v l) {j:Nat} (hj:j < l.length):∃ g off c,v = .slice (some ⟨g,off,none⟩) l.length c∧∀ W',Below W.heap.size W W'→Dc.Cells W' g (off+j * 7) (l.getD j Dc.w0):=by
 obtain ⟨A,c,rfl⟩:=Rd.form h
 obtain ⟨_,g,off,rfl,hg,hc⟩:=RdD.word h hj
 have k:=hc j hj
 refine ⟨g,off,c,rfl,fun W' hb=>?_⟩
 have q:∀ i u,(Dc.wenc (l.getD j Dc.w0))[i]? = some u→W'.cell? ⟨g,off+j * 7+i,none⟩ = some u:=fun i u hu=>(hb.cell (p:=⟨g,off+j * 7+i,none⟩) hg).trans (k i u hu)
 exact ⟨q 0 _ rfl,q 1 _ rfl,q 2 _ rfl,q 3 _ rfl,q 4 _ rfl,q 5 _ rfl,q 6 _ rfl⟩
set_option maxRecDepth 100000 in
set_option maxHeartbeats 4000000 in
theorem dsame_any (w:World) (va vb:Value) (l:List Dc.Wd) (ha:RdD w va l) (hb:RdD w vb l) (hl:l.length≤5000) :
  Calls Tryz.prog 33 #[va,vb] w fun e w'=>e = .returned (.bool true)∧Below w.heap.size w w':=by
 have HA:=Lib.hid ha
 have HB:=Lib.hid hb
 have HL:=Lib.hid hl
 obtain ⟨A1,c1,rfl⟩:=Rd.form ha
 obtain ⟨A2,c2,rfl⟩:=Rd.form hb
 clear ha hb hl
 go_enter Tryz.func33,Tryz.ntmps33
 go_wp2_with fail
 go_loopw [5] (fun i wr=>∃ k:Nat,k≤l.length∧i = .int .i64 (k:Int)∧Below w.heap.size w wr) (fun i _=>l.length - (intOf i).toNat)
 case atStart=>exact ⟨0,Nat.zero_le _,rfl,Below.refl _ _⟩
 case round=>
  obtain ⟨k,hk,rfl,hbr⟩:=hrel
  have HBR:=Lib.hid hbr
  by_cases hlt:k < l.length
  ·have hlt':(k:Int) < (l.length:Int):=by omega
   have hk0:(0:Int)≤(k:Int):=by omega
   obtain ⟨g1,o1,d1,e1,h1⟩:=RdD.cells (Rd.kept HA.out hbr) hlt
   obtain ⟨g2,o2,d2,e2,h2⟩:=RdD.cells (Rd.kept HB.out hbr) hlt
   injection e1 with e1 _ e3
   injection e2 with e2 _ e4
   subst e1 e2 e3 e4
   obtain ⟨x,hx⟩:∃ x,l.getD k Dc.w0 = x:=⟨_,rfl⟩
   rw [hx] at h1 h2
   have HC:=Lib.hid (fun W' hW'=>And.intro (h1 W' hW') (h2 W' hW'))
   have CR:=Lib.hid (fun W=>dref_any W x.list x.h.fl ⟨x.h.name.toArray⟩ x.at_ x.h.link x.h.xt x.h.size)
   have NQ:=Dc.neq_word x
   have wk:=Dc.k_next hlt HL.out
   clear h1 h2 hbr hx hk
   go_wp2_with fail
   refine Kit.wp_region_class (fun W'=>Below wr.heap.size wr W') (by kernel_rfl) (by kernel_rfl) ((Below.refl _ _).drew) ?_
   repeat (first | go_big_quiet_skip | (refine BigFrame.wpQuiet_want (by rfl) (fun K hK=>?_);first | ((fail_if_success (fail_if_success (first | (refine BigFrame.quiet_move _ rfl ?_) | (refine BigFrame.quiet_assign _ rfl ?_))));go_big_quiet_op;refine hK _ ?_;clear hK K) | (apply Exists.intro;refine ⟨fun W' hW'=>?_,hK _ ?_⟩;(obtain ⟨⟨q0,q1,q2,q3,q4,q5,q6⟩,p0,p1,p2,p3,p4,p5,p6⟩:=HC.out W' hW';unfold Oper.quietAt;go_simp;(first | done | (with_reducible rfl) | (exact ⟨rfl,rfl⟩) | (first | (go_at_call 78;exact callB (CR.out _) hW' (Nat.le_refl _)) | (refine ⟨rfl,?_⟩;(first | (go_at_call 78;exact callB (CR.out _) hW' (Nat.le_refl _)))))));clear hK K;(try simp only [Act.put,List.getElem_toArray,List.getElem_cons_zero,List.getElem_cons_succ,List.setIfInBounds_toArray,List.set_cons_zero,List.set_cons_succ]))))
   refine wpQuiet_nil ?_
   intro W9 hB9
   have HB9:=Lib.hid (HBR.out.trans (hB9.mono HBR.out.size))
   clear hB9
   go_wp2_with fail
   go_roundw
   case rel=>exact ⟨k+1,by omega,by push_cast;rfl,HB9.out⟩
   case measure=>
    simp only [intOf]
    omega
  ·have hlt':¬ (k:Int) < (l.length:Int):=by omega
   clear hbr
   go_wp2_with fail
   go_ret
   exact ⟨rfl,HBR.out⟩
theorem Dc.nops_next (k:Nat):(List.replicate k Im.nopB).flatten ++ ([19,0,0,0]:List UInt8) = (List.replicate (k+1) Im.nopB).flatten:=by
 rw [List.replicate_succ',List.flatten_append]
 simp [Im.nopB]
theorem Dc.nops_len (k:Nat):(List.replicate k Im.nopB).flatten.length = 4 * k:=by
 induction k with
 | zero=>rfl
 | succ k ih=>rw [← Dc.nops_next,List.length_append,ih];show 4 * k+4 = _;omega
set_option maxRecDepth 100000 in
theorem nops_any (n:Nat) (hn:n≤4) (w:World):Calls Tryz.prog 40 #[.int .i64 (n:Int)] w fun e w'=>e = .returned (.string ⟨((List.replicate n Im.nopB).flatten).toArray⟩)∧w = w':=by
 go_enter Tryz.func40,Tryz.ntmps40
 go_wp2_with fail
 go_loop [3,4] (fun s i=>∃ k:Nat,k≤n∧s = .string ⟨((List.replicate k Im.nopB).flatten).toArray⟩∧i = .int .i64 (k:Int)) (fun _ i=>n - (intOf i).toNat)
 case atStart=>exact ⟨0,Nat.zero_le _,rfl,rfl⟩
 case round=>
  obtain ⟨k,hk,rfl,rfl⟩:=hrel
  have hl:=Dc.nops_len k
  have hx:=Dc.nops_next k
  obtain ⟨p0,hp0⟩:∃ p,(List.replicate k Im.nopB).flatten = p:=⟨_,rfl⟩
  rw [hp0] at hl hx ⊢
  by_cases hlt:k < n
  ·have hlt':(k:Int) < (n:Int):=by omega
   have wk:IntKind.i64.wrap ((k:Int)+1) = (k:Int)+1:=by rw [IntKind.wrap_i64];omega
   have b1:¬ 9223372036854775807 < p0.length+4:=by omega
   have hc:(⟨p0.toArray⟩:ByteArray) ++ ⟨#[19,0,0,0]⟩ = ⟨((List.replicate (k+1) Im.nopB).flatten).toArray⟩:=by rw [← hx];exact app_eq p0 [19,0,0,0]
   clear hp0 hx
   go_wp2_with fail
   go_round
   case rel=>exact ⟨k+1,by omega,rfl,by push_cast;rfl⟩
   case measure=>
    simp only [intOf]
    omega
  ·obtain rfl:k = n:=by omega
   have hlt':¬ (k:Int) < (k:Int):=by omega
   go_wp2_with fail
   go_ret
   exact ⟨rfl,rfl⟩
set_option maxRecDepth 100000 in
set_option maxHeartbeats 4000000 in
theorem refs_any (w:World) (va:Value) (l:List Dc.Wd) (ha:RdD w va l) (hl:l.length≤5000) :
  Calls Tryz.prog 42 #[va] w fun e w'=>∃ v,e = .returned v∧RdD w' v l∧Below w.heap.size w w':=by
 have HA:=Lib.hid ha
 have HL:=Lib.hid hl
 obtain ⟨A1,c1,rfl⟩:=Rd.form ha
 clear ha hl
 go_enter Tryz.func42,Tryz.ntmps42
 go_wp2_with fail
 go_loopw [3,4] (fun v i wr=>∃ k:Nat,k≤l.length∧i = .int .i64 (k:Int)∧wr.ownsRow w.heap.size 80 7 v k ((l.take k).flatMap Dc.wenc)∧Below w.heap.size w wr) (fun _ i _=>l.length - (intOf i).toNat)
 case atStart=>exact ⟨0,Nat.zero_le _,rfl,World.ownsRow_nil _ _ _ _,Below.refl _ _⟩
 case round=>
  obtain ⟨k,hk,rfl,hown,hbr⟩:=hrel
  have HBR:=Lib.hid hbr
  have HO:=Lib.hid hown
  by_cases hlt:k < l.length
  ·have hlt':(k:Int) < (l.length:Int):=by omega
   have hk0:(0:Int)≤(k:Int):=by omega
   obtain ⟨g1,o1,d1,e1,h1⟩:=RdD.cells (Rd.kept HA.out hbr) hlt
   injection e1 with e1 _ e3
   subst e1 e3
   have HTK:=Lib.hid (show (l.take (k+1)).flatMap Dc.wenc = (l.take k).flatMap Dc.wenc ++ Dc.wenc (l.getD k Dc.w0) from by
    rw [List.getD_eq_getElem?_getD,List.getElem?_eq_getElem hlt,List.take_add_one,List.getElem?_eq_getElem hlt,List.flatMap_append]
    simp)
   obtain ⟨x,hx⟩:∃ x,l.getD k Dc.w0 = x:=⟨_,rfl⟩
   rw [hx] at h1 HTK
   obtain ⟨q0,q1,q2,q3,q4,q5,q6⟩:=h1 wr (Below.refl _ _)
   have CR:=Lib.hid (fun W=>dref_any W x.list x.h.fl ⟨x.h.name.toArray⟩ x.at_ x.h.link x.h.xt x.h.size)
   have wk:=Dc.k_next hlt HL.out
   have hk5:k≤5000:=by have:=HL.out;omega
   clear h1 hbr hx hown
   go_wp2_with (first
    | (go_at_call 78;refine (CR.out _).mono ?_;rintro e w1 ⟨rfl,hb1⟩;have HB1:=Lib.hid (HBR.out.trans (hb1.mono HBR.out.size));have HO1:=Lib.hid (own_kept (own_kept HO.out hb1) ((Below.refl _ _).alloc (Nat.le_refl _) (.cells (Dc.wenc x).toArray 80)));have HS1:=Lib.hid (Rd.src rwrt (Rd.built (Bk.fresh w1 80 (Dc.wenc x).toArray) rfl) (Dc.one x));have HZ1:=Lib.hid (HB1.out.alloc HB1.out.size (.cells (Dc.wenc x).toArray 80));unfold Dc.wenc at HO1 HS1 HZ1)
    | (at_builtin;refine wpList_appendR rfl _ _ _ _ rfl rwrt (by decide) w.heap.size _ rfl k ((l.take k).flatMap Dc.wenc) HO1.out _ rfl 1 (Dc.wenc x) HS1.out (by omega) (by unfold maxLen;omega) HZ1.out.size ?_;intro v3 w3 ho3 hb3 hg3))
   have HB3:=Lib.hid (HZ1.out.trans hb3)
   have HO3:=Lib.hid ho3
   clear hb3 ho3 hg3
   go_roundw
   case rel=>exact ⟨k+1,by omega,by push_cast;rfl,by rw [HTK.out];exact HO3.out,HB3.out⟩
   case measure=>
    simp only [intOf]
    omega
  ·have hlt':¬ (k:Int) < (l.length:Int):=by omega
   obtain rfl:k = l.length:=by omega
   clear hbr hown
   go_wp2_with fail
   go_ret
   exact ⟨_,rfl,by have:=HO.out;rw [List.take_length] at this;exact Rd.of_own this,HBR.out⟩
end Go.Proofs.YtpcpaoeajcjoiaaGreatDoor
