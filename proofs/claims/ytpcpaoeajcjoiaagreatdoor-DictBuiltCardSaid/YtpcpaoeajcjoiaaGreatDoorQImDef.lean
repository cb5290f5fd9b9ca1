/- Texts joined, what is not reached left out. -/
import Derived.Test.YtpcpaoeajcjoiaaGreatDoorPB
import Derived.Test.YtpcpaoeajcjoiaaGreatDoorNP
import Derived.Test.YtpcpaoeajcjoiaaGreatDoorKX
set_option linter.unusedVariables false
set_option linter.unusedSimpArgs false
namespace Go.Proofs.YtpcpaoeajcjoiaaGreatDoor
open Go.RowKit Kit
theorem As.Rs.step {F F':Nat→Prop} {w w':World} {v:Value} {l:List (List UInt8)} (h:As.Rs F w v l) (hs:Step F w F' w'):As.Rs F' w' v l:=
 As.Rs.fr h hs.fr fun g hlt hg=>(hs.new g hg).elim id fun e=>absurd hlt (by omega)
theorem Im.out_end (S:Im.St):(Im.end_ S).list = S.list∧(Im.end_ S).last = S.last∧(Im.end_ S).out.length≤S.out.length+1:=by
 unfold Im.end_
 split
 ·exact ⟨rfl,rfl,by omega⟩
 ·refine ⟨rfl,rfl,?_⟩
  show (S.out ++ [_]).length≤_
  simp
theorem Im.fold8_lt (n:Nat):Nm.fold8 n < 16:=by
 have h:∀ a:Nat,a % 16 < 2 ^ 4:=fun a=>Nat.mod_lt _ (by decide)
 unfold Nm.fold8
 exact Nat.xor_lt_two_pow (Nat.xor_lt_two_pow (Nat.xor_lt_two_pow (Nat.xor_lt_two_pow (Nat.xor_lt_two_pow (Nat.xor_lt_two_pow (Nat.xor_lt_two_pow (h _) (h _)) (h _)) (h _)) (h _)) (h _)) (h _)) (h _)
theorem Im.def_eq (labels:List (List UInt8)) (name flags:List UInt8) (S:Im.St) (k:Nat) (own head:List UInt8) (hk:S.list * 16+Im.bucket name = k) (ho:Im.label S.list name = own) (hh:Im.head S.list name = head) :
  Im.def_ labels name flags S = Im.begin_ name (Im.put ⟨[],As.tWord,[head]⟩ (Im.put ⟨[],As.tAlign,[]⟩ (Im.put ⟨[],As.tByte,Im.bytes name flags⟩ (Im.put ⟨[],As.tSpan,[own,own ++ [36]]⟩ (Im.put ⟨[],As.tWord,[own]⟩ (Im.keep k head
   (Im.put ⟨labels ++ [head],As.tWord,[Im.either (S.last.getD k [])]⟩ (Im.put ⟨[],As.tAlign,[]⟩ (Im.end_ S))))))))):=by
 unfold Im.def_ Im.defs
 rw [hk,ho,hh]
 simp [Im.put,Im.puts,Im.keep,List.append_assoc]
theorem iput_nil {F:Nat→Prop} {w:World} {gm:Nat} {S:Im.St} (h:Im.Mk F w gm S) (word:List UInt8) (ho:S.out.length≤1000000) :
  Calls Tryz.prog 105 #[.pointer (some ⟨gm,0,none⟩),.slice none 0 0,.string ⟨word.toArray⟩,.slice none 0 0] w fun e w'=>e = .returned (.tuple #[])∧Im.To F w gm (Im.put ⟨[],word,[]⟩ S) w':=
 iput_any h _ _ ⟨[],word,[]⟩ (Im.rs_nil F w).1 (Im.rs_nil F w) (by simp) ho
theorem Im.alloc_below (w:World) (z:Obj):Below w.heap.size w (w.alloc z):=(Below.refl _ _).alloc (Nat.le_refl _) _
theorem iput_one {F:Nat→Prop} {w:World} {gm:Nat} {S:Im.St} (h:Im.Mk F w gm S) (word a:List UInt8) (ho:S.out.length≤1000000) :
  Calls Tryz.prog 105 #[.pointer (some ⟨gm,0,none⟩),.slice none 0 0,.string ⟨word.toArray⟩,.slice (some ⟨w.heap.size,0,none⟩) 1 1] (w.alloc (.cells #[.string ⟨a.toArray⟩] 9)) fun e w'=>e = .returned (.tuple #[])∧Im.To F w gm (Im.put ⟨[],word,[a]⟩ S) w':=
 (iput_any (h.kept (Im.alloc_below w _)) _ _ ⟨[],word,[a]⟩ (Im.rs_nil F _).1 ⟨Im.rd_one w a,Im.clear_new h.lt 1 1⟩ (by simp) ho).mono fun e w' hh=>⟨hh.1,hh.2.after (Step.of_below (Im.alloc_below w _))⟩
theorem iput_two {F:Nat→Prop} {w:World} {gm:Nat} {S:Im.St} (h:Im.Mk F w gm S) (word a b:List UInt8) (ho:S.out.length≤1000000) :
  Calls Tryz.prog 105 #[.pointer (some ⟨gm,0,none⟩),.slice none 0 0,.string ⟨word.toArray⟩,.slice (some ⟨w.heap.size,0,none⟩) 2 2] (w.alloc (.cells #[.string ⟨a.toArray⟩,.string ⟨b.toArray⟩] 9)) fun e w'=>e = .returned (.tuple #[])∧Im.To F w gm (Im.put ⟨[],word,[a,b]⟩ S) w':=
 (iput_any (h.kept (Im.alloc_below w _)) _ _ ⟨[],word,[a,b]⟩ (Im.rs_nil F _).1 ⟨Im.rd_two w a b,Im.clear_new h.lt 2 2⟩ (by simp) ho).mono fun e w' hh=>⟨hh.1,hh.2.after (Step.of_below (Im.alloc_below w _))⟩
abbrev Im.cA (s:List UInt8):Obj:=.cells #[.string ⟨s.toArray⟩] 9
abbrev Im.cB (vl:Value) (g:Nat):Obj:=.cells #[vl,.slice (some ⟨g,0,none⟩) 1 1] 61
theorem Im.cat_at {w W0 W2 W4:World} {vl:Value} {labels:List (List UInt8)} {head:List UInt8} {g1 g2:Nat} (hl:RdS w vl labels) (h0:Below w.heap.size w W0) (h1:g1 = W0.heap.size) (h2:Below (W0.alloc (Im.cA head)).heap.size (W0.alloc (Im.cA head)) W2) (hg2:g2 = W2.heap.size) (h4:Below (W2.alloc (Im.cB vl g1)).heap.size (W2.alloc (Im.cB vl g1)) W4) (hln:labels.length≤100000) :
  Calls Tryz.prog 103 #[.slice (some ⟨g2,0,none⟩) 2 2] W4 fun e w'=>∃ v,e = .returned v∧OwnS w.heap.size w' v (labels ++ [head])∧Below W4.heap.size W4 w'∧Below w.heap.size w w':=by
 subst h1 hg2
 have hb2:Below w.heap.size w W2:=h0.trans (((Im.alloc_below W0 _).trans (h2.mono (by simp))).mono h0.size)
 have hb4:Below w.heap.size w W4:=hb2.trans (((Im.alloc_below W2 _).trans (h4.mono (by simp))).mono hb2.size)
 have hk:Bk W4 W2.heap.size 61 #[vl,.slice (some ⟨W0.heap.size,0,none⟩) 1 1]:=(Bk.fresh W2 61 #[vl,.slice (some ⟨W0.heap.size,0,none⟩) 1 1]).kept h4
 have hr:RdS W4 (.slice (some ⟨W0.heap.size,0,none⟩) 1 1) [head]:=RdS.kept (RdS.kept (Im.rd_one W0 head) h2) ((Im.alloc_below W2 _).trans (h4.mono (by simp)))
 refine (iconcat_any W2.heap.size _ vl _ labels [head] W4 hk (hl.kept hb4) hr (by omega) (by simp)).mono ?_
 rintro e w' ⟨v,rfl,ho,hb⟩
 exact ⟨v,rfl,own_rebase ho hb4.size,hb,hb4.trans (hb.mono hb4.size)⟩
theorem Im.own_two (w:World) (a b:List UInt8):OwnS w.heap.size (w.alloc (.cells #[.string ⟨a.toArray⟩,.string ⟨b.toArray⟩] 9)) (.slice (some ⟨w.heap.size,0,none⟩) 2 2) [a,b]:=
 ⟨rfl,.inr ⟨w.heap.size,2,_,rfl,Nat.le_refl _,heap_alloc_new w _,Nat.le_refl 2,by unfold maxLen;omega,rfl,rfl⟩⟩
def Im.bytesK (name flags:List UInt8) (k:Nat):List (List UInt8):=flags :: Lib.decDigits name.length :: (name.take k).map fun c=>Lib.decDigits c.toNat
theorem Im.bytesK_len (name flags:List UInt8) (k:Nat) (hk:k≤name.length):(Im.bytesK name flags k).length = k+2:=by simp [Im.bytesK];omega
theorem Im.bytesK_succ (name flags:List UInt8) (k:Nat) (hk:k < name.length):Im.bytesK name flags (k+1) = Im.bytesK name flags k ++ [Lib.decDigits (name.getD k 0).toNat]:=by
 unfold Im.bytesK
 rw [List.take_add_one,List.getElem?_eq_getElem hk,List.map_append]
 simp only [List.getD,List.getElem?_eq_getElem hk,Option.toList_some,Option.getD_some,List.map_cons,List.map_nil,List.cons_append]
theorem Im.bytesK_all (name flags:List UInt8):Im.bytesK name flags name.length = Im.bytes name flags:=by unfold Im.bytesK Im.bytes;rw [List.take_length]
theorem Im.def_round {w9 wa wb wr w10 wA w11:World} {v v11:Value} {b b1:List (List UInt8)} {d:List UInt8} (hs:b1 = b ++ [d]) (hbr:Below w9.heap.size w9 wr) (hz:wa.heap.size < wr.heap.size) (hn:v.ownBlock ≠ some wa.heap.size) (hk:wr.heap[wa.heap.size]? = wb.heap[wa.heap.size]?)
  (hb10:Below wr.heap.size wr w10) (hba:Below w10.heap.size w10 wA) (ho:w11.ownsRow w9.heap.size 9 1 v11 (b.length+1) (L6.sv b ++ [.string ⟨d.toArray⟩])) (hb11:Below w9.heap.size wA w11) (hg:wA.grownBy w11 v.ownBlock) (hv:∀ k,v11.ownBlock = some k→v.ownBlock = some k ∨ wA.heap.size≤k) :
  OwnS w9.heap.size w11 v11 b1∧Below w9.heap.size w9 w11∧v11.ownBlock ≠ some wa.heap.size∧w11.heap[wa.heap.size]? = wb.heap[wa.heap.size]?∧wa.heap.size < w11.heap.size:=by
 have z1:=hb10.size
 have z2:=hba.size
 have z3:=hb11.size
 refine ⟨by rw [hs];exact OwnS.snoc rfl ho,((hbr.trans (hb10.mono hbr.size)).trans (hba.mono (Nat.le_trans hbr.size z1))).trans hb11,fun e=>?_,?_,by omega⟩
 ·rcases hv _ e with e | e
  ·exact hn e
  ·omega
 ·rw [hg.block _ (show wa.heap.size < wA.heap.size by omega) (fun e=>hn e.symm),hba.block _ (by omega),hb10.block _ hz,hk]
theorem Im.def_put {F:Nat→Prop} {w W:World} {gm:Nat} {S:Im.St} (h:Im.Mk F w gm S) {v:Value} {l:List (List UInt8)} {el:List UInt8} {g:Nat} (hb:Below w.heap.size w W) (hv:OwnS w.heap.size W v l) (hg:RdS W (.slice (some ⟨g,0,none⟩) 1 1) [el]) (hg2:w.heap.size≤g) (hln:l.length≤1000000) (ho:S.out.length≤1000000) :
  Calls Tryz.prog 105 #[.pointer (some ⟨gm,0,none⟩),v,.string ⟨#[119,111,114,100]⟩,.slice (some ⟨g,0,none⟩) 1 1] W fun e w'=>e = .returned (.tuple #[])∧Hid (Im.To F w gm (Im.put ⟨l,As.tWord,[el]⟩ S) w'):=
 (iput_any (h.kept hb) v _ ⟨l,As.tWord,[el]⟩ hv.rd ⟨hg,fun k off n c e hn hk=>by
  injection e with e _ _
  injection e with e
  injection e with e _
  have:=h.lt k hk
  omega⟩ hln ho).mono fun e w' hh=>⟨hh.1,Lib.hid (hh.2.after (Step.of_below hb))⟩
set_option maxRecDepth 100000 in
set_option maxHeartbeats 8000000 in
theorem idef_any {F:Nat→Prop} {w:World} {gm:Nat} {S:Im.St} (h:Im.Mk F w gm S) (vl:Value) (labels:List (List UInt8)) (name flags:List UInt8) (hl:As.Rs F w vl labels) (hT:As.Tb F w) (hln:labels.length≤100000) (hn:name.length≤31) (ho:S.out.length≤999000) (hop:S.opn.length≤1000000000) :
  Calls Tryz.prog 107 #[.pointer (some ⟨gm,0,none⟩),vl,.string ⟨name.toArray⟩,.string ⟨flags.toArray⟩] w fun e w'=>e = .returned (.tuple #[])∧Im.To F w gm (Im.def_ labels name flags S) w':=by
 have HM0:=Lib.hid h
 have HL0:=Lib.hid hl
 have HT0:=Lib.hid hT
 have CE:=Lib.hid (iend_any h (by omega) hop)
 obtain ⟨A0,k0,hvl⟩:=Rd.form hl.1
 subst hvl
 have hli:=h.list
 obtain ⟨own,hown⟩:∃ a,Im.label S.list name = a:=⟨_,rfl⟩
 obtain ⟨head,hhead⟩:∃ a,Im.head S.list name = a:=⟨_,rfl⟩
 obtain ⟨hx,hhx⟩:∃ a,Nm.fold8 (Nm.hashN name) = a:=⟨_,rfl⟩
 have hhl:hx < 16:=by rw [← hhx];exact Im.fold8_lt _
 have HV:=Lib.hid (Im.def_eq labels name flags S (S.list * 16+hx) own head (by rw [← hhx];rfl) hown hhead)
 obtain ⟨li,hlii⟩:∃ a,S.list = a:=⟨_,rfl⟩
 rw [hlii] at hli hown hhead HV
 have CL:=Lib.hid (fun W=>ilabel_any li name W (by omega) (by omega))
 rw [hown] at CL
 have CI:=Lib.hid (fun W=>litoa_any li W (by omega) (.inl (by omega)))
 have CH:=Lib.hid (show ∀ W,Calls Tryz.prog 168 #[.string ⟨name.toArray⟩] W fun e w'=>e = .returned (.int .i64 (hx:Nat))∧Below W.heap.size W w' from fun W=>by
  have:=hash_own ⟨name.toArray⟩ W (by show name.length≤maxLen;unfold maxLen;omega)
  rw [show Nm.fold8 (Nm.hashN (⟨name.toArray⟩:ByteArray).data.toList) = hx from hhx] at this
  exact this)
 have hE:=Im.out_end S
 obtain ⟨S1,hS1⟩:∃ a,Im.end_ S = a:=⟨_,rfl⟩
 rw [hS1] at CE HV hE
 have hdl:=Im.dec_len li (by omega)
 have HON:=Lib.hid (show (61:UInt8) :: (Lib.decDigits li ++ name) = own from hown)
 have HHD:=Lib.hid (show (94:UInt8) :: (Lib.decDigits li ++ name) = head from hhead)
 have HLE:=Lib.hid hE
 have HN:=Lib.hid hn
 have HO:=Lib.hid ho
 have HLN:=Lib.hid hln
 have HLN2:=Lib.hid (show (labels ++ [head]).length≤1000000 by rw [List.length_append,List.length_cons,List.length_nil];omega)
 clear h hl hT hn ho hop hln hS1 hE hown hhead hhx
 rw [hlii] at HLE
 generalize Lib.decDigits li = D at *
 have hc1:(⟨#[94]⟩:ByteArray) ++ ⟨D.toArray⟩ = ⟨(94 :: D).toArray⟩:=app_eq [94] D
 have hc2:(⟨(94 :: D).toArray⟩:ByteArray) ++ ⟨name.toArray⟩ = ⟨((94 :: D) ++ name).toArray⟩:=app_eq (94 :: D) name
 have hc3:(⟨#[94]⟩:ByteArray) ++ ⟨D.toArray⟩ ++ ⟨name.toArray⟩ = ⟨head.toArray⟩:=by rw [hc1,hc2,← HHD.out];rfl
 have hl1:¬ 9223372036854775807 < 1+D.length:=by omega
 have hl2:¬ 9223372036854775807 < D.length+1:=by omega
 have hl3:¬ 9223372036854775807 < 1+D.length+name.length:=by have:=HN.out;omega
 have hl4:¬ 9223372036854775807 < D.length+1+name.length:=by have:=HN.out;omega
 have HOWN:=Lib.hid (show own.length≤1000 by have h1:=HON.out;have h2:=HN.out;rw [← h1];simp only [List.length_cons,List.length_append];omega)
 clear hc1 hc2 hdl
 go_enter Tryz.func107,Tryz.ntmps107
 go_wp2_with (go_at_call 52;refine CE.out.mono ?_;rintro e w1 ⟨rfl,F1,m1,s1⟩)
 have HM1:=Lib.hid m1
 have HS1:=Lib.hid s1
 have HQ1:=Lib.hid (show ∀ W',Below w1.heap.size w1 W'→W'.cell? ⟨gm,1,none⟩ = some (.int .i64 (li:Int)) from fun W' hb=>by
  obtain ⟨A,c,hs⟩:=(HM1.out.kept hb).seen
  have:=hs.list
  rw [HLE.out.1] at this
  exact this)
 clear m1 s1
 refine Kit.wp_region_class (fun W=>Below w1.heap.size w1 W) (by kernel_rfl) (by kernel_rfl) ((Below.refl _ _).drew) ?_
 repeat (first | go_big_quiet_skip | (refine BigFrame.wpQuiet_want (by rfl) (fun K hK=>?_);first | ((fail_if_success (fail_if_success (first | (refine BigFrame.quiet_move _ rfl ?_) | (refine BigFrame.quiet_assign _ rfl ?_))));go_big_quiet_op;refine hK _ ?_;clear hK K) | (apply Exists.intro;refine ⟨fun W' hW'=>?_,hK _ ?_⟩;(have q1:=HQ1.out W' hW';unfold Oper.quietAt;go_simp;(first | done | (with_reducible rfl) | (exact ⟨rfl,rfl⟩) | (first | (go_at_call 25;exact callB (CL.out _) hW' (Nat.le_refl _)) | (go_at_call 61;exact callB (CI.out _) hW' (Nat.le_refl _)) | (refine ⟨rfl,?_⟩;(first | (go_at_call 25;exact callB (CL.out _) hW' (Nat.le_refl _)) | (go_at_call 61;exact callB (CI.out _) hW' (Nat.le_refl _)))))));clear hK K;(try simp only [Act.put,List.getElem_toArray,List.getElem_cons_zero,List.getElem_cons_succ,List.setIfInBounds_toArray,List.set_cons_zero,List.set_cons_succ]))))
 refine wpQuiet_nil ?_
 intro w2 hb2
 have HM2:=Lib.hid (HM1.out.kept hb2)
 have HB2:=Lib.hid hb2
 have HQ2:=Lib.hid (show ∀ W',Below w2.heap.size w2 W'→W'.cell? ⟨gm,1,none⟩ = some (.int .i64 (li:Int)) from fun W' hb=>HQ1.out W' (HB2.out.trans (hb.mono HB2.out.size)))
 clear hb2
 go_wp2_with fail
 try simp only [hc3]
 have hx2:(hx:Int) < 16:=by omega
 have hx3:¬ (16:Int)≤(hx:Int):=by omega
 have hx4:¬ (hx:Int) < 0:=by omega
 have li2:(li:Int) < 2:=by omega
 have li3:¬ (2:Int)≤(li:Int):=by omega
 have li4:¬ (li:Int) < 0:=by omega
 refine Kit.wp_region_class (fun W=>Below w2.heap.size w2 W) (by kernel_rfl) (by kernel_rfl) ((Below.refl _ _).drew) ?_
 repeat (first | go_big_quiet_skip | (refine BigFrame.wpQuiet_want (by rfl) (fun K hK=>?_);first | ((fail_if_success (fail_if_success (first | (refine BigFrame.quiet_move _ rfl ?_) | (refine BigFrame.quiet_assign _ rfl ?_))));go_big_quiet_op;refine hK _ ?_;clear hK K) | (apply Exists.intro;refine ⟨fun W' hW'=>?_,hK _ ?_⟩;(have q1:=HQ2.out W' hW';unfold Oper.quietAt;go_simp;(first | done | (with_reducible rfl) | (exact ⟨rfl,rfl⟩) | (first | (go_at_call 168;exact callB (CH.out _) hW' (Nat.le_refl _)) | (refine ⟨rfl,?_⟩;(first | (go_at_call 168;exact callB (CH.out _) hW' (Nat.le_refl _)))))));clear hK K;(try simp only [Act.put,List.getElem_toArray,List.getElem_cons_zero,List.getElem_cons_succ,List.setIfInBounds_toArray,List.set_cons_zero,List.set_cons_succ]))))
 refine wpQuiet_nil ?_
 intro w3 hb3
 have HM3:=Lib.hid (HM2.out.kept hb3)
 have HB3:=Lib.hid hb3
 obtain ⟨k,hk⟩:∃ k,li * 16+hx = k:=⟨_,rfl⟩
 have hpk:2+li * 16+hx = 2+k:=by omega
 have HK:=Lib.hid (show k < 32 by omega)
 rw [hk] at HV
 clear hb3 hx2 hx3 hx4 li2 li3 li4 hk
 go_wp2_with fail
 refine (show Calls Tryz.prog 105 #[.pointer (some ⟨gm,0,none⟩),.slice none 0 0,.string ⟨#[97,108,105,103,110]⟩,.slice none 0 0] w3 _ from iput_nil HM3.out As.tAlign (by have:=HLE.out.2.2;have:=HO.out;omega)).mono ?_
 rintro e w4 ⟨rfl,F4,m4,s4⟩
 have HS4:=Lib.hid (((HS1.out.trans (Step.of_below HB2.out)).trans (Step.of_below HB3.out)).trans s4)
 have HM4:=Lib.hid m4
 have HL4:=Lib.hid (HL0.out.step HS4.out)
 have HE4:=Lib.hid (show (Im.put ⟨[],As.tAlign,[]⟩ S1).last = S.last∧(Im.put ⟨[],As.tAlign,[]⟩ S1).list = li∧(Im.put ⟨[],As.tAlign,[]⟩ S1).out.length≤S.out.length+2 from ⟨HLE.out.2.1,HLE.out.1,by
  have:=HLE.out.2.2
  show (S1.out ++ [_]).length≤_
  simp;omega⟩)
 clear m4 s4
 generalize Im.put ⟨[],As.tAlign,[]⟩ S1 = S4 at *
 have HQ4:=Lib.hid (show ∀ W',Below w4.heap.size w4 W'→W'.cell? ⟨gm,2+k,none⟩ = some (.string ⟨(S.last.getD k []).toArray⟩) from fun W' hb=>by
  obtain ⟨A,c,hs⟩:=(HM4.out.kept hb).seen
  have:=hs.last k HK.out
  rw [HE4.out.1] at this
  exact this)
 generalize S.last.getD k [] = link at *
 have CEI:=Lib.hid (fun W=>ieither_any link W)
 generalize Im.either link = el at *
 go_wp2_with fail
 have HRL4:=Lib.hid (show RdS w4 (.slice A0 labels.length k0) labels from HL4.out.1)
 have HLO4:=Lib.hid (show S4.out.length≤1000000 by have:=HE4.out.2.2;have:=HO.out;omega)
 have q4:=HQ4.out w4 (Below.refl _ _)
 have q41:=HQ4.out (w4.alloc (Im.cA head)) (Im.alloc_below _ _)
 have q42:=HQ4.out ((w4.alloc (Im.cA head)).alloc (Im.cB (.slice A0 labels.length k0) w4.heap.size)) ((Im.alloc_below _ _).alloc (by simp) _)
 go_cut [] from 43 to 54 (fun wx=>∃ F5,Im.Mk F5 wx gm (Im.put ⟨labels ++ [head],As.tWord,[el]⟩ S4)∧Step F w F5 wx)
 case first=>
  go_region_law (first
   | (go_simp;go_at_call 109;refine (CEI.out _).mono ?_;rintro e w5 ⟨rfl,rfl⟩)
   | (go_simp;go_at_call 103;first | ((with_reducible refine (Im.cat_at (w:=w4) (W0:=w4) (W2:=w4.alloc (Im.cA head)) (W4:=((w4.alloc (Im.cA head)).alloc (Im.cB (.slice A0 labels.length k0) w4.heap.size)).drew) (vl:=.slice A0 labels.length k0) (head:=head) HRL4.out (Below.refl _ _) rfl (Below.refl _ _) (by simp) (Below.refl _ _).drew HLN.out).mono ?_);rintro e w5 ⟨v5,rfl,hv5,hb5,hbb5⟩;have HV5:=Lib.hid hv5;have HB5:=Lib.hid hb5;have HBB5:=Lib.hid hbb5;have q5:=HQ4.out w5 HBB5.out;clear hv5 hb5 hbb5) | ((with_reducible refine (Im.cat_at (w:=w4) (W0:=w4.alloc (Im.cA el)) (W2:=(w4.alloc (Im.cA el)).alloc (Im.cA head)) (W4:=(((w4.alloc (Im.cA el)).alloc (Im.cA head)).alloc (Im.cB (.slice A0 labels.length k0) (w4.heap.size+1))).drew) (vl:=.slice A0 labels.length k0) (head:=head) HRL4.out (Im.alloc_below _ _) (by simp) (Below.refl _ _) (by simp) (Below.refl _ _).drew HLN.out).mono ?_);rintro e w5 ⟨v5,rfl,hv5,hb5,hbb5⟩;have HV5:=Lib.hid hv5;have HB5:=Lib.hid hb5;have HBB5:=Lib.hid hbb5;have HG5:=Lib.hid (show RdS w5 (.slice (some ⟨w4.heap.size,0,none⟩) 1 1) [el] from RdS.kept (RdS.kept (RdS.kept (RdS.kept (Im.rd_one w4 el) (Im.alloc_below _ _)) (Im.alloc_below _ _)) (Below.refl _ _).drew) hb5);have q5:=HQ4.out w5 HBB5.out;clear hv5 hb5 hbb5) | ((with_reducible refine (Im.cat_at (w:=w4) (W0:=w4) (W2:=(w4.alloc (Im.cA head)).alloc (Im.cA el)) (W4:=(((w4.alloc (Im.cA head)).alloc (Im.cA el)).alloc (Im.cB (.slice A0 labels.length k0) w4.heap.size)).drew) (vl:=.slice A0 labels.length k0) (head:=head) HRL4.out (Below.refl _ _) rfl (Im.alloc_below _ _) (by simp) (Below.refl _ _).drew HLN.out).mono ?_);rintro e w5 ⟨v5,rfl,hv5,hb5,hbb5⟩;have HV5:=Lib.hid hv5;have HB5:=Lib.hid hb5;have HBB5:=Lib.hid hbb5;have HG5:=Lib.hid (show RdS w5 (.slice (some ⟨w4.heap.size+1,0,none⟩) 1 1) [el] from RdS.kept (RdS.kept (RdS.kept (by have:=Im.rd_one (w4.alloc (Im.cA head)) el;simpa using this) (Im.alloc_below _ _)) (Below.refl _ _).drew) hb5);have q5:=HQ4.out w5 HBB5.out;clear hv5 hb5 hbb5) | ((with_reducible refine (Im.cat_at (w:=w4) (W0:=w4) (W2:=w4.alloc (Im.cA head)) (W4:=(((w4.alloc (Im.cA head)).alloc (Im.cB (.slice A0 labels.length k0) w4.heap.size)).alloc (Im.cA el)).drew) (vl:=.slice A0 labels.length k0) (head:=head) HRL4.out (Below.refl _ _) rfl (Below.refl _ _) (by simp) ((Im.alloc_below _ _).drew) HLN.out).mono ?_);rintro e w5 ⟨v5,rfl,hv5,hb5,hbb5⟩;have HV5:=Lib.hid hv5;have HB5:=Lib.hid hb5;have HBB5:=Lib.hid hbb5;have HG5:=Lib.hid (show RdS w5 (.slice (some ⟨w4.heap.size+2,0,none⟩) 1 1) [el] from RdS.kept (RdS.kept (by have:=Im.rd_one ((w4.alloc (Im.cA head)).alloc (Im.cB (.slice A0 labels.length k0) w4.heap.size)) el;simpa using this) (Below.refl _ _).drew) hb5);have q5:=HQ4.out w5 HBB5.out;clear hv5 hb5 hbb5))
   | (go_simp;go_at_call 105;first | ((with_reducible refine (Im.def_put HM4.out (W:=w5) HBB5.out HV5.out HG5.out (by omega) HLN2.out HLO4.out).mono ?_);rintro e w6 ⟨rfl,HP6⟩) | ((with_reducible refine (Im.def_put HM4.out (W:=w5.alloc (Im.cA el)) (HBB5.out.trans ((Im.alloc_below _ _).mono HBB5.out.size)) (HV5.out.kept (Im.alloc_below _ _)) (Im.rd_one w5 el) HBB5.out.size HLN2.out HLO4.out).mono ?_);rintro e w6 ⟨rfl,HP6⟩)))
  all_goals go_wp2_with fail
  all_goals go_meet
  all_goals exact Im.To.after HP6.out HS4.out
 case rest=>
  obtain ⟨F5,m5,s5⟩:=hcut
  have HLB5:=Lib.hid (show (Im.put ⟨labels ++ [head],As.tWord,[el]⟩ S4).out.length≤S.out.length+3 by
   have:=HE4.out.2.2
   show (S4.out ++ [_]).length≤_
   simp;omega)
  obtain ⟨S5,hS5⟩:∃ a,Im.put ⟨labels ++ [head],As.tWord,[el]⟩ S4 = a:=⟨_,rfl⟩
  rw [hS5] at HV m5 HLB5
  clear hS5 q4 q41 q42
  have HM5:=Lib.hid m5
  have HS5:=Lib.hid s5
  obtain ⟨A5,k5,hs5⟩:=m5.seen
  have q5:=hs5.last k HK.out
  have f5:=hs5.f (2+k)
  obtain ⟨F6,m6,s6⟩:=m5.toKeep k HK.out head
  have HS6:=Lib.hid (HS5.out.trans s6)
  have HM6:=Lib.hid m6
  clear m5 s5 hs5 m6 s6
  go_upto_region 6 with fail
  obtain ⟨w6,hw6⟩:∃ a,wc.setCell ⟨gm,2+k,none⟩ (.string ⟨head.toArray⟩) = a:=⟨_,rfl⟩
  rw [hw6] at HS6 HM6
  rw [hw6]
  have HLN6:=Lib.hid (show (Im.keep k head S5).out.length≤S.out.length+3 from HLB5.out)
  generalize Im.keep k head S5 = S6 at *
  clear hw6 q5 f5
  go_wp2_with fail
  refine (show Calls Tryz.prog 105 #[.pointer (some ⟨gm,0,none⟩),.slice none 0 0,.string ⟨#[119,111,114,100]⟩,.slice (some ⟨w6.heap.size,0,none⟩) 1 1] (w6.alloc (.cells #[.string ⟨own.toArray⟩] 9)) _ from iput_one HM6.out As.tWord own (by have:=HLN6.out;have:=HO.out;omega)).mono ?_
  rintro e w7 ⟨rfl,F7,m7,s7⟩
  have HS7:=Lib.hid (HS6.out.trans s7)
  have HM7:=Lib.hid m7
  have HLN7:=Lib.hid (show (Im.put ⟨[],As.tWord,[own]⟩ S6).out.length≤S.out.length+4 by
   have:=HLN6.out
   show (S6.out ++ [_]).length≤_
   simp;omega)
  generalize Im.put ⟨[],As.tWord,[own]⟩ S6 = S7 at *
  clear m7 s7
  have hcs:(⟨own.toArray⟩:ByteArray) ++ ⟨#[36]⟩ = ⟨(own ++ [36]).toArray⟩:=app_eq own [36]
  have hlo:=HOWN.out
  have hlo1:¬ 9223372036854775807 < own.length+1:=by omega
  go_wp2_with fail
  refine (show Calls Tryz.prog 105 #[.pointer (some ⟨gm,0,none⟩),.slice none 0 0,.string ⟨#[115,112,97,110]⟩,.slice (some ⟨w7.heap.size,0,none⟩) 2 2] (w7.alloc (.cells #[.string ⟨own.toArray⟩,.string ⟨(own ++ [36]:List UInt8).toArray⟩] 9)) _ from iput_two HM7.out As.tSpan own (own ++ [36]) (by have:=HLN7.out;have:=HO.out;omega)).mono ?_
  rintro e w8 ⟨rfl,F8,m8,s8⟩
  have HS8:=Lib.hid (HS7.out.trans s8)
  have HM8:=Lib.hid m8
  have HLN8:=Lib.hid (show (Im.put ⟨[],As.tSpan,[own,own ++ [36]]⟩ S7).out.length≤S.out.length+5 by
   have:=HLN7.out
   show (S7.out ++ [_]).length≤_
   simp;omega)
  generalize Im.put ⟨[],As.tSpan,[own,own ++ [36]]⟩ S7 = S8 at *
  have HT8:=Lib.hid (HT0.out.step HS8.out)
  clear m8 s8 hcs hlo hlo1
  have CN:=Lib.hid (show ∀ W,Calls Tryz.prog 61 #[.int .i64 (name.length:Int)] W fun e w'=>e = .returned (.string ⟨(Lib.decDigits name.length).toArray⟩)∧Below W.heap.size W w' from fun W=>litoa_any name.length W (by have:=HN.out;omega) (.inl (by have:=HN.out;omega)))
  go_upto_region 9 with (go_at_call 61;refine (CN.out _).mono ?_;rintro e w9 ⟨rfl,hb9⟩;have HB9:=Lib.hid hb9;clear hb9)
  have HM9:=Lib.hid (HM8.out.kept HB9.out)
  have HO9:=Lib.hid (Im.own_two w9 flags (Lib.decDigits name.length))
  have HW9:=Lib.hid (Im.alloc_below w9 (.cells #[.string ⟨flags.toArray⟩,.string ⟨(Lib.decDigits name.length).toArray⟩] 9))
  obtain ⟨wa,hwa⟩:∃ a,w9.alloc (.cells #[.string ⟨flags.toArray⟩,.string ⟨(Lib.decDigits name.length).toArray⟩] 9) = a:=⟨_,rfl⟩
  rw [hwa] at HO9 HW9
  have HZa:=Lib.hid (show wa.heap.size = w9.heap.size+1 by rw [← hwa];simp)
  rw [hwa]
  clear hwa
  obtain ⟨wb,cb,hcv,hcell,hbel,hsz⟩:=conv_sb (P:=Tryz.prog) wa 9 26 5 ⟨name.toArray⟩ Tryz.underlying9 Tryz.underlying26 Tryz.underlying5
  have HCC:=Lib.hid hcell
  have HBb:=Lib.hid hbel
  have HZb:=Lib.hid hsz
  clear hcell hbel hsz
  go_wp2_with fail
  have HWab:=Lib.hid (show Below w9.heap.size w9 wb from HW9.out.trans (HBb.out.mono HW9.out.size))
  have HNE:=Lib.hid (show (Value.slice (some ⟨w9.heap.size,0,none⟩) 2 2).ownBlock ≠ some wa.heap.size by
   rw [HZa.out]
   simp [Value.ownBlock])
  have HOb:=Lib.hid (OwnS.kept HO9.out HBb.out)
  have HCb:=Lib.hid (show ∀ W':World,W'.heap[wa.heap.size]? = wb.heap[wa.heap.size]?→∀ j,j < name.length→W'.cell? ⟨wa.heap.size,j,none⟩ = some (.int .u8 (name.getD j 0).toNat) from fun W' he j hj=>by
   have:=HCC.out j hj
   unfold World.cell? at this ⊢
   rw [he]
   exact this)
  clear hcv
  generalize cb = cb at *
  go_loopw [11,76] (fun v i wr=>∃ j:Nat,j≤name.length∧i = .int .i64 (j:Int)∧OwnS w9.heap.size wr v (Im.bytesK name flags j)∧Below w9.heap.size w9 wr∧v.ownBlock ≠ some wa.heap.size∧wr.heap[wa.heap.size]? = wb.heap[wa.heap.size]?∧wa.heap.size < wr.heap.size) (fun _ i _=>name.length - (intOf i).toNat)
  case atStart=>exact ⟨0,Nat.zero_le _,rfl,HOb.out,HWab.out,HNE.out,rfl,HZb.out⟩
  case round=>
   obtain ⟨j,hj,rfl,ho,hb,hne,hbk,hlt⟩:=hrel
   have HOr:=Lib.hid ho
   have HBr:=Lib.hid hb
   have HKr:=Lib.hid hbk
   have HNr:=Lib.hid hne
   have HZr:=Lib.hid hlt
   obtain ⟨Ar,kr,hvr⟩:=ho.form
   subst hvr
   clear ho hb hbk hne hlt
   by_cases hlt:j < name.length
   ·have hc:=HCb.out wr HKr.out j hlt
    have HCT:=Lib.hid (show ∀ W,Below w9.heap.size w9 W→Calls Tryz.prog 61 #[.int .i64 ((name.getD j 0).toNat:Int)] W fun e w'=>e = .returned (.string ⟨(Lib.decDigits (name.getD j 0).toNat).toArray⟩)∧Below W.heap.size W w' from fun W hW=>litoa_any _ W (by have:=(name.getD j 0).toNat_lt;omega) (.inr (((HT8.out.kept HB9.out).1).kept hW)))
    have hch:=(name.getD j 0).toNat_lt
    have HSU:=Lib.hid (Im.bytesK_succ name flags j hlt)
    have HLK:=Lib.hid (Im.bytesK_len name flags j hj)
    generalize name.getD j 0 = ch at *
    have HL1:=Lib.hid (show ((Im.bytesK name flags j).length+1) * 16≤140737488355328∧(Im.bytesK name flags j).length+1≤maxLen by rw [HLK.out];have:=HN.out;unfold maxLen;omega)
    go_wp2_with (first
     | (go_at_call 61;refine (HCT.out _ HBr.out).mono ?_;rintro e w10 ⟨rfl,hb10⟩;have HB10:=Lib.hid hb10;have HBA:=Lib.hid (Im.alloc_below w10 (.cells #[.string ⟨(Lib.decDigits ch.toNat).toArray⟩] 9));have HO10:=Lib.hid (OwnS.kept (OwnS.kept HOr.out hb10) HBA.out);have HS10:=Lib.hid (src_one w10 (Lib.decDigits ch.toNat));clear hb10)
     | (refine wpList_appendRB (by rfl) _ _ _ _ (by rfl) lsrt (by decide) w9.heap.size _ (by rfl) (Im.bytesK name flags j).length (L6.sv (Im.bytesK name flags j)) HO10.out _ (by rfl) 1 [.string ⟨(Lib.decDigits ch.toNat).toArray⟩] HS10.out HL1.out.1 HL1.out.2 (Nat.le_trans (Nat.le_trans HBr.out.size HB10.out.size) HBA.out.size) ?_;intro v11 w11 ho11 hb11 hg11 hv11))
    have hrel2:=Im.def_round HSU.out HBr.out HZr.out HNr.out HKr.out HB10.out HBA.out ho11 hb11 hg11 hv11
    clear ho11 hb11 hg11 hv11
    go_roundw
    case rel=>exact ⟨j+1,by omega,by go_num,hrel2⟩
    case measure=>simp [intOf];omega
   ·have hje:j = name.length:=by omega
    subst hje
    rw [Im.bytesK_all] at HOr
    have HM10:=Lib.hid (HM9.out.kept HBr.out)
    have HR10:=Lib.hid (show As.Rs F8 wr (.slice Ar (Im.bytesK name flags name.length).length kr) (Im.bytes name flags) from by
     rw [Im.bytesK_all]
     exact ⟨HOr.out.rd,OwnS.new_clear HOr.out HM9.out.lt⟩)
    rw [Im.bytesK_all] at *
    clear hlt
    go_wp2_with fail
    refine (show Calls Tryz.prog 105 #[.pointer (some ⟨gm,0,none⟩),.slice none 0 0,.string ⟨#[98,121,116,101]⟩,.slice Ar (Im.bytes name flags).length kr] wr _ from iput_any HM10.out (.slice none 0 0) (.slice Ar (Im.bytes name flags).length kr) ⟨[],As.tByte,Im.bytes name flags⟩ (Im.rs_nil F8 wr).1 HR10.out (by simp) (by have:=HLN8.out;have:=HO.out;omega)).mono ?_
    rintro e x1 ⟨rfl,F9,m9,s9⟩
    have HS9:=Lib.hid ((HS8.out.trans ((Step.of_below HB9.out).trans (Step.of_below HBr.out))).trans s9)
    have HM11:=Lib.hid m9
    have HLN9:=Lib.hid (show (Im.put ⟨[],As.tByte,Im.bytes name flags⟩ S8).out.length≤S.out.length+6 by
     have:=HLN8.out
     show (S8.out ++ [_]).length≤_
     simp;omega)
    generalize Im.put ⟨[],As.tByte,Im.bytes name flags⟩ S8 = S9 at *
    clear m9 s9
    go_wp2_with fail
    refine (show Calls Tryz.prog 105 #[.pointer (some ⟨gm,0,none⟩),.slice none 0 0,.string ⟨#[97,108,105,103,110]⟩,.slice none 0 0] x1 _ from iput_nil HM11.out As.tAlign (by have:=HLN9.out;have:=HO.out;omega)).mono ?_
    rintro e x2 ⟨rfl,FA,mA,sA⟩
    have HSA:=Lib.hid (HS9.out.trans sA)
    have HM12:=Lib.hid mA
    have HLNA:=Lib.hid (show (Im.put ⟨[],As.tAlign,[]⟩ S9).out.length≤S.out.length+7 by
     have:=HLN9.out
     show (S9.out ++ [_]).length≤_
     simp;omega)
    generalize Im.put ⟨[],As.tAlign,[]⟩ S9 = SA at *
    clear mA sA
    go_wp2_with fail
    refine (show Calls Tryz.prog 105 #[.pointer (some ⟨gm,0,none⟩),.slice none 0 0,.string ⟨#[119,111,114,100]⟩,.slice (some ⟨x2.heap.size,0,none⟩) 1 1] (x2.alloc (.cells #[.string ⟨head.toArray⟩] 9)) _ from iput_one HM12.out As.tWord head (by have:=HLNA.out;have:=HO.out;omega)).mono ?_
    rintro e x3 ⟨rfl,FB,mB,sB⟩
    have HSB:=Lib.hid (HSA.out.trans sB)
    have HLNB:=Lib.hid (show (Im.put ⟨[],As.tWord,[head]⟩ SA).out.length≤S.out.length+8 by
     have:=HLNA.out
     show (SA.out ++ [_]).length≤_
     simp;omega)
    generalize Im.put ⟨[],As.tWord,[head]⟩ SA = SB at *
    have CB:=Lib.hid (ibegin_any mB name (by have:=HN.out;omega) (by have:=HLNB.out;have:=HO.out;omega))
    clear mB sB
    go_wp2_with (go_at_call 108;refine CB.out.mono ?_;rintro e x4 ⟨rfl,hto⟩;have HTO:=Lib.hid hto;clear hto)
    go_end0
    exact ⟨rfl,by rw [HV.out];exact HTO.out.after HSB.out⟩
end Go.Proofs.YtpcpaoeajcjoiaaGreatDoor
