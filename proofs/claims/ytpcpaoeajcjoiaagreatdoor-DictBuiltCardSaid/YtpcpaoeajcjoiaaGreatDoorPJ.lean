/- Texts joined, what is not reached left out. -/
import Derived.Test.YtpcpaoeajcjoiaaGreatDoorPH
import Derived.Test.YtpcpaoeajcjoiaaGreatDoorNP
import Derived.Test.YtpcpaoeajcjoiaaGreatDoorPG
import Derived.Deep.RegionLaw
import Derived.Test.YtpcpaoeajcjoiaaGreatDoorKX
set_option linter.unusedVariables false
set_option linter.unusedSimpArgs false
namespace Go.Proofs.YtpcpaoeajcjoiaaGreatDoor
theorem Im.wB_head (pos la:Nat) (x:Im.W):Im.wB pos la x = Nm.headB x.name x.fl la (pos+Im.hsz x) (4 * x.n) ++ (As.four pos ++ (List.replicate x.n Im.nopB).flatten):=by
 have h:Nm.les [la,pos+Im.hsz x,4 * x.n] = As.four la ++ (As.four (pos+Im.hsz x) ++ (As.four (4 * x.n) ++ [])):=rfl
 unfold Im.wB Nm.headB Im.pd
 rw [h]
 simp only [List.append_assoc,List.cons_append,List.nil_append,List.append_nil]
def Im.z32:List Nat:=List.replicate 32 0
def Im.img (ws:List Im.W):List UInt8:=Im.nopB ++ (Im.bytesA 4 Im.z32 ws ++ Im.slotsB (Im.laF 4 Im.z32 ws))
theorem Im.img_len (ws:List Im.W) (h:∀ x ∈ ws,Im.Fine x):(Im.img ws).length = 4+Im.szs ws+128:=by
 unfold Im.img
 rw [List.length_append,List.length_append,Im.bytesA_len _ _ _ h,Im.slotsB_len]
 show 4+_ = _
 omega
theorem Nm.wat_at (P Q:List UInt8) (v:Nat) (hv:v < 4294967296):Nm.wat (P ++ (As.four v ++ Q)) P.length = v:=by
 have hg:∀ j,(P ++ (As.four v ++ Q)).getD (P.length+j) 0 = (As.four v ++ Q).getD j 0:=fun j=>by
  rw [List.getD_eq_getElem?_getD,List.getD_eq_getElem?_getD,List.getElem?_append_right (by omega)]
  congr 2
  omega
 unfold Nm.wat
 rw [hg 1,hg 2,hg 3,show (P ++ (As.four v ++ Q)).getD P.length 0 = (As.four v ++ Q).getD 0 0 from hg 0]
 exact Nm.word_le4 hv
theorem Im.la_lt:∀ (ws:List Im.W) (pos:Nat) (la:List Nat),(∀ k,la.getD k 0 < pos)→∀ k,(Im.laF pos la ws).getD k 0 < pos+Im.szs ws
 | [],pos,la,h,k=>by unfold Im.laF Im.szs;exact h k
 | x :: r,pos,la,h,k=>by
  have hw:0 < Im.wsz x:=by unfold Im.wsz Im.hsz;omega
  unfold Im.laF Im.szs
  have:=Im.la_lt r (pos+Im.wsz x) (la.set (Im.key x) pos) (fun j=>by
   rw [Im.getD_set]
   split
   ·omega
   ·have:=h j;omega) k
  omega
theorem Im.z32_at (k:Nat):Im.z32.getD k 0 = 0:=by
 unfold Im.z32
 rw [List.getD_eq_getElem?_getD,List.getElem?_replicate]
 split <;> rfl
theorem Im.link_lt (ws:List Im.W) (k:Nat):(Im.laF 4 Im.z32 ws).getD k 0 < 4+Im.szs ws:=Im.la_lt ws 4 Im.z32 (fun j=>by rw [Im.z32_at];omega) k
theorem Im.la_len:∀ (ws:List Im.W) (pos:Nat) (la:List Nat),(Im.laF pos la ws).length = la.length
 | [],_,_=>rfl
 | x :: r,pos,la=>by unfold Im.laF;rw [Im.la_len r,List.length_set]
theorem Im.la_snoc (A:List Im.W) (x:Im.W) (k:Nat) (hk:k < 32):(Im.laF 4 Im.z32 (A ++ [x])).getD k 0 = if Im.key x = k then 4+Im.szs A else (Im.laF 4 Im.z32 A).getD k 0:=by
 rw [Im.laF_app]
 show ((Im.laF 4 Im.z32 A).set (Im.key x) (4+Im.szs A)).getD k 0 = _
 rw [Im.getD_set,Im.la_len]
 by_cases h:Im.key x = k
 ·rw [if_pos ⟨h,hk⟩,if_pos h]
 ·rw [if_neg (fun e=>h e.1),if_neg h]
theorem Im.slots_drop (f:Nat→List UInt8) (hf:∀ k,(f k).length = 4):∀ (ks:List Nat) (i:Nat) (hi:i < ks.length),∃ P Q,P.length = 4 * i∧ks.flatMap f = P ++ (f ks[i] ++ Q)
 | k :: r,0,hi=>⟨[],r.flatMap f,rfl,by rw [List.flatMap_cons];rfl⟩
 | k :: r,i+1,hi=>by
  obtain ⟨P,Q,h1,h2⟩:=Im.slots_drop f hf r i (by simpa using hi)
  refine ⟨f k ++ P,Q,by rw [List.length_append,hf,h1];omega,?_⟩
  rw [List.flatMap_cons,h2,List.append_assoc]
  rfl
theorem Im.img_head (ws:List Im.W) (h:∀ y ∈ ws,Im.Fine y) (hb:4+Im.szs ws≤130000) (k:Nat) (hk:k < 32):Nm.wat (Im.img ws) (4+Im.szs ws+4 * k) = (Im.laF 4 Im.z32 ws).getD k 0:=by
 obtain ⟨P,Q,h1,h2⟩:=Im.slots_drop (fun k=>As.four ((Im.laF 4 Im.z32 ws).getD k 0)) (fun _=>rfl) (List.range 32) k (by rw [List.length_range];exact hk)
 have hl:=Im.link_lt ws k
 rw [List.getElem_range] at h2
 have e:Im.img ws = (Im.nopB ++ (Im.bytesA 4 Im.z32 ws ++ P)) ++ (As.four ((Im.laF 4 Im.z32 ws).getD k 0) ++ Q):=by
  unfold Im.img Im.slotsB
  rw [h2]
  simp only [List.append_assoc]
 rw [e,show 4+Im.szs ws+4 * k = (Im.nopB ++ (Im.bytesA 4 Im.z32 ws ++ P)).length by
  rw [List.length_append,List.length_append,Im.bytesA_len _ _ _ h,h1]
  show _ = 4+_
  omega]
 exact Nm.wat_at _ _ _ (by omega)
theorem Im.key_lt (x:Im.W) (h:Im.Fine x):Im.key x < 32:=by
 have h1:Im.bucket x.name < 16:=by
  unfold Im.bucket
  rw [← Nm.foldN_8]
  exact Nm.foldN_lt _ _
 have:=h.2.2.2
 unfold Im.key
 omega
theorem Im.szs_le:∀ (ws:List Im.W),(∀ x ∈ ws,Im.Fine x)→Im.szs ws≤64 * ws.length
 | [],_=>Nat.le_refl _
 | x :: r,h=>by
  have h1:=Im.szs_le r fun y hy=>h y (by simp [hy])
  obtain ⟨h2,h3,h4,_⟩:=h x (by simp)
  have:Im.wsz x≤64:=by
   unfold Im.wsz Im.hsz Nm.lengthN
   rw [if_neg (by omega)]
   omega
  unfold Im.szs
  rw [List.length_cons]
  omega
theorem Im.take_next {l:List Im.W} {i:Nat} (hi:i < l.length):l = l.take i ++ l[i] :: l.drop (i+1):=by rw [← List.drop_eq_getElem_cons hi,List.take_append_drop]
end Go.Proofs.YtpcpaoeajcjoiaaGreatDoor
namespace Go.Proofs.YtpcpaoeajcjoiaaGreatDoor
open Go.RowKit Kit
theorem Im.byte_str (w:World) (n:Nat) (hn:n < 10):(convert 26 9 (.slice (some ⟨w.heap.size,0,none⟩) 1 1)).run Tryz.prog (w.alloc (.cells #[.int .u8 (48+(n:Int))] 5)) = .ok (.string ⟨[UInt8.ofNat (48+n)].toArray⟩) (w.alloc (.cells #[.int .u8 (48+(n:Int))] 5)):=by
 have hbk:=Bk.fresh w 5 #[.int .u8 (48+(n:Int))]
 have e:(UInt8.ofNat (48+n)).toNat = 48+n:=by rw [UInt8.toNat_ofNat'];omega
 refine As.str_of (b:=[UInt8.ofNat (48+n)]) ⟨rfl,some ⟨w.heap.size,0,none⟩,1,rfl,Nat.le_refl _,by unfold maxLen;omega,fun _=>⟨_,0,rfl,hbk.lt,fun j u hu=>?_⟩⟩
 rw [Nat.zero_add,hbk.cell j]
 simp only [bv,List.map_cons,List.map_nil,e] at hu
 rw [← hu]
 simp
set_option maxRecDepth 100000 in
set_option maxHeartbeats 1000000 in
theorem idigits_nat:∀ (n:Nat) (w:World),n≤4294967296→Calls Tryz.prog 55 #[.int .i64 (n:Int)] w fun e w'=>e = .returned (.string ⟨(Lib.decDigits n).toArray⟩)∧Below w.heap.size w w':=by
 intro n
 induction n using Nat.strongRecOn with
 | ind n ih=>
  intro w hn
  by_cases h10:n < 10
  ·have hlt:(n:Int) < 10:=by omega
   have hw1:IntKind.i64.wrap (48+(n:Int)) = 48+(n:Int):=by rw [IntKind.wrap_i64];omega
   have hw2:IntKind.u8.wrap (48+(n:Int)) = 48+(n:Int):=by rw [IntKind.wrap_u8];omega
   have HD:=Lib.hid (show Lib.decDigits n = [UInt8.ofNat (48+n)] from by unfold Lib.decDigits;rw [dif_pos h10])
   have hcv:=Im.byte_str w n h10
   generalize UInt8.ofNat (48+n) = ch at HD hcv
   have HAL:=Lib.hid ((Below.refl w.heap.size w).alloc (Nat.le_refl _) (.cells #[.int .u8 (48+(n:Int))] 5))
   clear ih
   go_enter Tryz.func55,Tryz.ntmps55
   go_wp2_with fail
   go_ret
   exact ⟨by rw [HD.out];rfl,HAL.out⟩
  ·have hge:¬ (n:Int) < 10:=by omega
   obtain ⟨q,hq⟩:∃ q,n / 10 = q:=⟨_,rfl⟩
   obtain ⟨r,hr⟩:∃ r,n % 10 = r:=⟨_,rfl⟩
   have C1:=Lib.hid (fun W=>ih q (by omega) W (by omega))
   have C2:=Lib.hid (fun W=>ih r (by omega) W (by omega))
   have t1:(n:Int).tdiv 10 = (q:Int):=by rw [Int.tdiv_eq_ediv_of_nonneg (by omega)];omega
   have t2:(n:Int).tmod 10 = (r:Int):=by rw [Int.tmod_eq_emod_of_nonneg (by omega)];omega
   have hw1:IntKind.i64.wrap (q:Int) = (q:Int):=by rw [IntKind.wrap_i64];omega
   have hw2:IntKind.i64.wrap (r:Int) = (r:Int):=by rw [IntKind.wrap_i64];omega
   have HD:=Lib.hid (show Lib.decDigits n = Lib.decDigits q ++ Lib.decDigits r from by
    conv=>lhs;unfold Lib.decDigits
    rw [dif_neg h10,hq,hr]
    congr 1
    unfold Lib.decDigits
    rw [dif_pos (by omega)])
   have hl1:=F8.dec_len q
   have hl2:=F8.dec_len r
   have hlen:¬ 9223372036854775807 < (Lib.decDigits q).length+(Lib.decDigits r).length:=by omega
   clear ih hq hr hl1 hl2 hn
   go_enter Tryz.func55,Tryz.ntmps55
   go_wp2_with (first | (go_at_call 55;with_reducible refine (C1.out _).mono ?_;rintro e w1 ⟨rfl,hb1⟩) | (go_at_call 55;with_reducible refine (C2.out _).mono ?_;rintro e w2 ⟨rfl,hb2⟩))
   go_ret
   exact ⟨by rw [HD.out];exact congrArg (fun x=>Ending.returned (.string x)) (app_eq _ _),hb1.trans (hb2.mono hb1.size)⟩
theorem Im.wrap_u32 (n:Nat) (h:n < 4294967296):IntKind.u32.wrap (n:Int) = n:=by rw [IntKind.wrap_u32];omega
theorem Im.wrap_u64 (n:Nat) (h:n < 18446744073709551616):IntKind.u64.wrap (n:Int) = n:=by rw [IntKind.wrap_u64];omega
structure Im.Raw where
 name:List UInt8
 f:Int
 n:Int
 l:Int
def Im.rowC (rs:List Im.Raw):List Value:=rs.flatMap fun r=>[.string ⟨r.name.toArray⟩,.int .i64 r.f,.int .i64 r.n,.int .i64 r.l]
def Im.Raw.w (r:Im.Raw):Im.W:=⟨r.name,(r.f % 16).toNat,(r.n % 4).toNat,(r.l % 2).toNat⟩
def Im.I64 (x:Int):Prop:=-9223372036854775808≤x∧x≤9223372036854775807
def Im.Raw.ok (r:Im.Raw):Prop:=Im.I64 r.f∧Im.I64 r.n∧Im.I64 r.l
theorem Im.row_rd {w:World} {v:Value} {rs:List Im.Raw} (h:Rd w 4 v rs.length (Im.rowC rs)) {k:Nat} (hk:k < rs.length) :
  ∃ g off c,v = .slice (some ⟨g,off,none⟩) rs.length c∧g < w.heap.size∧w.cell? ⟨g,off+k * 4,none⟩ = some (.string ⟨rs[k].name.toArray⟩)∧w.cell? ⟨g,off+k * 4+1,none⟩ = some (.int .i64 rs[k].f)∧w.cell? ⟨g,off+k * 4+2,none⟩ = some (.int .i64 rs[k].n)∧w.cell? ⟨g,off+k * 4+3,none⟩ = some (.int .i64 rs[k].l):=by
 obtain ⟨hl,A,c,rfl,h2,h3,h4⟩:=h
 obtain ⟨g,off,rfl,hg,hc⟩:=h4 (by omega)
 have hat:∀ (l:List Im.Raw) (i:Nat) (hi:i < l.length),(Im.rowC l)[i * 4]? = some (.string ⟨l[i].name.toArray⟩)∧(Im.rowC l)[i * 4+1]? = some (.int .i64 l[i].f)∧(Im.rowC l)[i * 4+2]? = some (.int .i64 l[i].n)∧(Im.rowC l)[i * 4+3]? = some (.int .i64 l[i].l):=by
  intro l
  induction l with
  | nil=>intro i hi;simp at hi
  | cons p r ih=>
   intro i hi
   cases i with
   | zero=>exact ⟨rfl,rfl,rfl,rfl⟩
   | succ i=>
    obtain ⟨e1,e2,e3,e4⟩:=ih i (by simpa using hi)
    refine ⟨?_,?_,?_,?_⟩
    ·rw [show (i+1) * 4 = i * 4+1+1+1+1 by omega];exact e1
    ·rw [show (i+1) * 4+1 = i * 4+1+1+1+1+1 by omega];exact e2
    ·rw [show (i+1) * 4+2 = i * 4+2+1+1+1+1 by omega];exact e3
    ·rw [show (i+1) * 4+3 = i * 4+3+1+1+1+1 by omega];exact e4
 obtain ⟨e1,e2,e3,e4⟩:=hat rs k hk
 exact ⟨g,off,c,rfl,hg,hc _ _ e1,hc _ _ e2,hc _ _ e3,hc _ _ e4⟩
theorem Im.mod_facts (x:Int) (k:Nat) (hk:0 < k) (hk2:k≤16):∃ (a b:Int) (m:Nat),Int.tmod x k = a∧IntKind.i64.wrap a = a∧IntKind.i64.wrap (a+(k:Int)) = b∧Int.tmod b k = (m:Int)∧IntKind.i64.wrap (m:Int) = (m:Int)∧m = (x % k).toNat∧m < k:=by
 have h1:=Int.tmod_lt_of_pos x (show (0:Int) < k by omega)
 have h2:=Int.lt_tmod_of_pos x (show (0:Int) < k by omega)
 have hm:(x % (k:Int)) < k:=Int.emod_lt_of_pos x (by omega)
 have hm0:0≤(x % (k:Int)):=Int.emod_nonneg x (by omega)
 refine ⟨Int.tmod x k,Int.tmod x k+k,(x % k).toNat,rfl,?_,?_,?_,?_,rfl,by omega⟩
 ·rw [IntKind.wrap_i64];omega
 ·rw [IntKind.wrap_i64];omega
 ·rw [Int.tmod_eq_emod_of_nonneg (by omega),Int.add_emod_right]
  have e:Int.tmod x k % k = x % k:=by
   have hd:=Int.mul_tdiv_add_tmod x k
   conv=>rhs;rw [← hd]
   rw [Int.mul_add_emod_self_left]
  rw [e]
  omega
 ·rw [IntKind.wrap_i64];omega
theorem Im.mod2 (x:Int):∃ (a b:Int) (m:Nat),Int.tmod x 2 = a∧IntKind.i64.wrap a = a∧IntKind.i64.wrap (a+2) = b∧Int.tmod b 2 = (m:Int)∧IntKind.i64.wrap (m:Int) = (m:Int)∧m = (x % 2).toNat∧m < 2:=Im.mod_facts x 2 (by decide) (by decide)
theorem Im.mod4 (x:Int):∃ (a b:Int) (m:Nat),Int.tmod x 4 = a∧IntKind.i64.wrap a = a∧IntKind.i64.wrap (a+4) = b∧Int.tmod b 4 = (m:Int)∧IntKind.i64.wrap (m:Int) = (m:Int)∧m = (x % 4).toNat∧m < 4:=Im.mod_facts x 4 (by decide) (by decide)
theorem Im.mod16 (x:Int):∃ (a b:Int) (m:Nat),Int.tmod x 16 = a∧IntKind.i64.wrap a = a∧IntKind.i64.wrap (a+16) = b∧Int.tmod b 16 = (m:Int)∧IntKind.i64.wrap (m:Int) = (m:Int)∧m = (x % 16).toNat∧m < 16:=Im.mod_facts x 16 (by decide) (by decide)
def Im.pre (ws:List Im.W):List UInt8:=L6.text (Im.nop :: ws.flatMap Im.srcW)
def Im.wordT (x:Im.W):List UInt8:=[108,105,115,116,32] ++ (Lib.decDigits x.l ++ ([10,100,101,102,32] ++ (x.name ++ ([32] ++ (Lib.decDigits x.fl ++ [10])))))
theorem Im.text_app (A B:List L6.Line):L6.text (A ++ B) = L6.text A ++ L6.text B:=by simp [L6.text]
theorem Im.nop_text:L6.text [Im.nop] = [110,111,112,10]:=rfl
theorem Im.nops_text:∀ k:Nat,L6.text (List.replicate k Im.nop) ++ [110,111,112,10] = L6.text (List.replicate (k+1) Im.nop):=fun k=>by
 rw [List.replicate_succ',Im.text_app,Im.nop_text]
theorem Im.pre_snoc (ws:List Im.W) (x:Im.W):Im.pre (ws ++ [x]) = (Im.pre ws ++ Im.wordT x) ++ L6.text (List.replicate x.n Im.nop):=by
 have h:L6.text (Im.srcW x) = Im.wordT x ++ L6.text (List.replicate x.n Im.nop):=by
  unfold Im.srcW
  rw [show ((⟨[],Im.tList,[Lib.decDigits x.l]⟩:L6.Line) :: (⟨[],Im.tDef,[x.name,Lib.decDigits x.fl]⟩:L6.Line) :: List.replicate x.n Im.nop) = [⟨[],Im.tList,[Lib.decDigits x.l]⟩,⟨[],Im.tDef,[x.name,Lib.decDigits x.fl]⟩] ++ List.replicate x.n Im.nop from rfl,Im.text_app]
  congr 1
  unfold Im.wordT L6.text L6.lineText L6.lineWords
  simp [Lib.join,Lib.joinTail,Im.tList,Im.tDef,L6.marked]
 unfold Im.pre
 rw [List.flatMap_append,List.flatMap_cons,List.flatMap_nil,List.append_nil,← List.cons_append,Im.text_app,h,List.append_assoc]
theorem Im.src_text (ws:List Im.W):L6.text (Im.src ws) = Im.pre ws ++ [104,58,32,104,101,97,100,115,10]:=by
 unfold Im.src Im.pre
 rw [← List.cons_append,Im.text_app]
 rfl
theorem Im.wordT_len (x:Im.W) (hf:Im.Fine x):(Im.wordT x).length≤60:=by
 have h1:=Im.dec15 x.l (by have:=hf.2.2.2;omega)
 have h2:=Im.dec15 x.fl hf.2.1
 have:=hf.1
 unfold Im.wordT
 simp only [List.length_append,List.length_cons,List.length_nil]
 omega
theorem Im.nops_len (k:Nat):(L6.text (List.replicate k Im.nop)).length = 4 * k:=by
 induction k with
 | zero=>rfl
 | succ k ih=>
  rw [← Im.nops_text,List.length_append,ih]
  rfl
theorem Im.pre_len:∀ (ws:List Im.W),(∀ x ∈ ws,Im.Fine x)→(Im.pre ws).length≤4+72 * ws.length:=by
 intro ws
 induction hn:ws.length generalizing ws with
 | zero=>intro _;rw [List.eq_nil_of_length_eq_zero hn];exact Nat.le_refl _
 | succ k ih=>
  intro h
  rcases List.eq_nil_or_concat ws with rfl | ⟨A,x,rfl⟩
  ·simp at hn
  ·have h1:=ih A (by simpa using hn) fun y hy=>h y (by simp [hy])
   have hf:=h x (by simp)
   have h2:=Im.wordT_len x hf
   have h3:=hf.2.2.1
   rw [List.concat_eq_append,Im.pre_snoc,List.length_append,List.length_append,Im.nops_len]
   omega
theorem Im.raw_fine {r:Im.Raw} (h:r.name.length≤31):Im.Fine r.w:=⟨h,by show (r.f % 16).toNat≤15;omega,by show (r.n % 4).toNat≤3;omega,by show (r.l % 2).toNat≤1;omega⟩
def Im.txtK (rs:List Im.Raw) (k:Nat):List UInt8:=Im.pre ((rs.take k).map Im.Raw.w)
theorem Im.txtK_next {rs:List Im.Raw} {k:Nat} (hk:k < rs.length):Im.txtK rs (k+1) = (Im.txtK rs k ++ Im.wordT rs[k].w) ++ L6.text (List.replicate rs[k].w.n Im.nop):=by
 unfold Im.txtK
 rw [List.take_succ_eq_append_getElem hk,List.map_append,List.map_cons,List.map_nil,Im.pre_snoc]
theorem Im.str_cat7 (s d n f:List UInt8):((((((⟨s.toArray⟩:ByteArray) ++ ⟨#[108,105,115,116,32]⟩) ++ ⟨d.toArray⟩) ++ ⟨#[10,100,101,102,32]⟩) ++ ⟨n.toArray⟩) ++ ⟨#[32]⟩) ++ ⟨f.toArray⟩ ++ ⟨#[10]⟩ = ⟨(s ++ ([108,105,115,116,32] ++ (d ++ ([10,100,101,102,32] ++ (n ++ ([32] ++ (f ++ [10]))))))).toArray⟩:=by
 have e1:(⟨#[108,105,115,116,32]⟩:ByteArray) = ⟨([108,105,115,116,32]:List UInt8).toArray⟩:=rfl
 have e2:(⟨#[10,100,101,102,32]⟩:ByteArray) = ⟨([10,100,101,102,32]:List UInt8).toArray⟩:=rfl
 have e3:(⟨#[32]⟩:ByteArray) = ⟨([32]:List UInt8).toArray⟩:=rfl
 have e4:(⟨#[10]⟩:ByteArray) = ⟨([10]:List UInt8).toArray⟩:=rfl
 rw [e1,e2,e3,e4,app_eq,app_eq,app_eq,app_eq,app_eq,app_eq,app_eq]
 simp only [List.append_assoc]
set_option maxRecDepth 100000 in
set_option maxHeartbeats 8000000 in
theorem isource10_any (v:Value) (rs:List Im.Raw) (w:World) (h:Rd w 4 v rs.length (Im.rowC rs)) (hn:rs.length≤20) (hx:∀ r ∈ rs,r.name.length≤31) :
  Calls Tryz.prog 19 #[v] w fun e w'=>e = .returned (.string ⟨(L6.text (Im.src (rs.map Im.Raw.w))).toArray⟩)∧Below w.heap.size w w':=by
 have HH:=Lib.hid h
 have HX:=Lib.hid hx
 have HN:=Lib.hid hn
 have HFIN:=Lib.hid (show L6.text (Im.src (rs.map Im.Raw.w)) = Im.txtK rs rs.length ++ [104,58,32,104,101,97,100,115,10] by
  rw [Im.src_text];unfold Im.txtK;rw [List.take_length])
 have HLEN:=Lib.hid (fun k=>show (Im.txtK rs k).length≤4+72 * 20 from by
  have h1:=Im.pre_len ((rs.take k).map Im.Raw.w) (fun x hx'=>by
   obtain ⟨r,hr,rfl⟩:=List.mem_map.1 hx'
   exact Im.raw_fine (hx r (List.mem_of_mem_take hr)))
  have h2:((rs.take k).map Im.Raw.w).length≤rs.length:=by rw [List.length_map,List.length_take];omega
  show (Im.pre _).length≤_
  omega)
 obtain ⟨A,c,rfl⟩:=h.form
 clear h hx hn
 go_enter Tryz.func19,Tryz.ntmps19
 go_wp2_with fail
 go_loopw [3,4] (fun s i wr=>∃ k:Nat,i = .int .i64 (k:Int)∧k≤rs.length∧s = .string ⟨(Im.txtK rs k).toArray⟩∧Below w.heap.size w wr) (fun _ i _=>rs.length - (intOf i).toNat)
 case atStart=>exact ⟨0,rfl,Nat.zero_le _,rfl,Below.refl _ _⟩
 case round=>
  obtain ⟨k,rfl,hk,rfl,hbr⟩:=hrel
  have HBR:=Lib.hid hbr
  clear hbr
  by_cases hlt:k < rs.length
  ·have hlt':(k:Int) < (rs.length:Int):=by omega
   have hw1:IntKind.i64.wrap ((k:Int)+1) = (k:Int)+1:=by have:=HN.out;clear HH HX HLEN HFIN HBR;rw [IntKind.wrap_i64];omega
   have HNX:=Lib.hid (Im.txtK_next hlt)
   have HL1:=Lib.hid (HLEN.out k)
   have hnm:=HX.out _ (List.getElem_mem hlt)
   have HWT:=Lib.hid (Im.wordT_len rs[k].w (Im.raw_fine hnm))
   obtain ⟨g,off,c',e,hg,q0,q1,q2,q3⟩:=Im.row_rd (HH.out.kept HBR.out) hlt
   injection e with e1 e2 e3
   subst e1 e3
   have HWD:=Lib.hid (show Im.wordT rs[k].w = [108,105,115,116,32] ++ (Lib.decDigits rs[k].w.l ++ ([10,100,101,102,32] ++ (rs[k].name ++ ([32] ++ (Lib.decDigits rs[k].w.fl ++ [10]))))) from rfl)
   obtain ⟨al,bl,ml,hl1,hl2,hl3,hl4,hl5,hl6,hl7⟩:=Im.mod2 rs[k].l
   obtain ⟨af,bf,mf,hf1,hf2,hf3,hf4,hf5,hf6,hf7⟩:=Im.mod16 rs[k].f
   obtain ⟨an,bn,mn,hn1,hn2,hn3,hn4,hn5,hn6,hn7⟩:=Im.mod4 rs[k].n
   have gl:rs[k].w.l = ml:=hl6.symm
   have gf:rs[k].w.fl = mf:=hf6.symm
   have gn:rs[k].w.n = mn:=hn6.symm
   rw [gl,gf] at HWD
   rw [gn] at HNX
   have d1:=(Im.dec15 ml (by omega)).2
   have d2:=(Im.dec15 mf (by omega)).2
   have CL:=Lib.hid (fun W=>idigits_nat ml W (by omega))
   have CF:=Lib.hid (fun W=>idigits_nat mf W (by omega))
   generalize Lib.decDigits ml = dl at *
   generalize Lib.decDigits mf = df at *
   generalize Im.wordT rs[k].w = wt at *
   clear hl6 hf6 hn6 gl gf gn
   obtain ⟨nm,hnm2⟩:∃ a,rs[k].name = a:=⟨_,rfl⟩
   rw [hnm2] at q0 hnm HWD
   obtain ⟨fk,hfk⟩:∃ a,rs[k].f = a:=⟨_,rfl⟩
   rw [hfk] at q1 hf1
   obtain ⟨nk,hnk⟩:∃ a,rs[k].n = a:=⟨_,rfl⟩
   rw [hnk] at q2 hn1
   obtain ⟨lk,hlk⟩:∃ a,rs[k].l = a:=⟨_,rfl⟩
   rw [hlk] at q3 hl1
   have HQ:=Lib.hid (show ∀ W',Below wr.heap.size wr W'→W'.cell? ⟨g,off+k * 4,none⟩ = some (.string ⟨nm.toArray⟩)∧W'.cell? ⟨g,off+k * 4+1,none⟩ = some (.int .i64 fk)∧W'.cell? ⟨g,off+k * 4+2,none⟩ = some (.int .i64 nk)∧W'.cell? ⟨g,off+k * 4+3,none⟩ = some (.int .i64 lk) from fun W' hb=>⟨(hb.cell (p:=⟨g,_,none⟩) hg).trans q0,(hb.cell (p:=⟨g,_,none⟩) hg).trans q1,(hb.cell (p:=⟨g,_,none⟩) hg).trans q2,(hb.cell (p:=⟨g,_,none⟩) hg).trans q3⟩)
   clear hnm2 hfk hnk hlk
   have HTK:=Lib.hid (show ∃ T,T = Im.txtK rs (k+1) from ⟨_,rfl⟩)
   obtain ⟨T,hT⟩:=HTK.out
   rw [← hT] at HNX
   have HT:=Lib.hid hT
   clear hT
   generalize Im.txtK rs k = tk at *
   have g1:¬ 9223372036854775807 < tk.length+5:=by have:=HL1.out;omega
   have g2:¬ 9223372036854775807 < tk.length+5+dl.length:=by have:=HL1.out;omega
   have g3:¬ 9223372036854775807 < tk.length+5+dl.length+5:=by have:=HL1.out;omega
   have g4:¬ 9223372036854775807 < tk.length+5+dl.length+5+nm.length:=by have:=HL1.out;omega
   have g5:¬ 9223372036854775807 < tk.length+5+dl.length+5+nm.length+1:=by have:=HL1.out;omega
   have g6:¬ 9223372036854775807 < tk.length+5+dl.length+5+nm.length+1+df.length:=by have:=HL1.out;omega
   have g7:¬ 9223372036854775807 < tk.length+5+dl.length+5+nm.length+1+df.length+1:=by have:=HL1.out;omega
   go_wp2_with fail
   refine Kit.wp_region_class (fun W'=>Below wr.heap.size wr W') (by kernel_rfl) (by kernel_rfl) ((Below.refl _ _).drew) ?_
   repeat (first | go_big_quiet_skip | (refine BigFrame.wpQuiet_want (by rfl) (fun K hK=>?_);first | ((fail_if_success (fail_if_success (first | (refine BigFrame.quiet_move _ rfl ?_) | (refine BigFrame.quiet_assign _ rfl ?_))));go_big_quiet_op;refine hK _ ?_;clear hK K) | (apply Exists.intro;refine ⟨fun W' hW'=>?_,hK _ ?_⟩;(obtain ⟨k0,k1,k2,k3⟩:=HQ.out W' hW';unfold Oper.quietAt;go_simp;(first | done | (with_reducible rfl) | (exact ⟨rfl,rfl⟩) | (first | (go_at_call 55;with_reducible exact callB (CL.out _) hW' (Nat.le_refl _)) | (go_at_call 55;with_reducible exact callB (CF.out _) hW' (Nat.le_refl _)) | (refine ⟨rfl,?_⟩;(first | (go_at_call 55;with_reducible exact callB (CL.out _) hW' (Nat.le_refl _)) | (go_at_call 55;with_reducible exact callB (CF.out _) hW' (Nat.le_refl _)))))));clear hK K;(try simp only [Act.put,List.getElem_toArray,List.getElem_cons_zero,List.getElem_cons_succ,List.setIfInBounds_toArray,List.set_cons_zero,List.set_cons_succ]))))
   refine wpQuiet_nil ?_
   intro w2 hb2
   rw [Im.str_cat7,← HWD.out]
   have HB2:=Lib.hid hb2
   clear hb2 g1 g2 g3 g4 g5 g6 g7 hl1 hl2 hl3 hl4 hl5 hf1 hf2 hf3 hf4 hf5 d1 d2 q0 q1 q2 q3
   go_wp2_with fail
   go_loopw [3,5] (fun s i wy=>∃ m:Nat,i = .int .i64 (m:Int)∧m≤mn∧s = .string ⟨((tk ++ wt) ++ L6.text (List.replicate m Im.nop)).toArray⟩∧Below wr.heap.size wr wy) (fun _ i _=>mn - (intOf i).toNat)
   case atStart=>exact ⟨0,rfl,Nat.zero_le _,by simp [L6.text],HB2.out⟩
   case round=>
    obtain ⟨m,rfl,hm,rfl,hby⟩:=hrel
    obtain ⟨k0,k1,k2,k3⟩:=HQ.out _ hby
    have HBY:=Lib.hid hby
    have HNL:=Lib.hid (Im.nops_len m)
    clear hby k0 k1 k3
    have HNT:=Lib.hid (Im.nops_text m)
    by_cases hlm:m < mn
    ·have hlm':(m:Int) < (mn:Int):=by omega
     have hw2:IntKind.i64.wrap ((m:Int)+1) = (m:Int)+1:=by clear HNX HT HBY HNT HQ;rw [IntKind.wrap_i64];omega
     have HL2:=Lib.hid (show ((tk ++ wt) ++ L6.text (List.replicate m Im.nop)).length≤4000 by
      have h1:=HL1.out
      have h2:=HWT.out
      rw [List.length_append,List.length_append,HNL.out]
      omega)
     have HS:=Lib.hid (show ((tk ++ wt) ++ L6.text (List.replicate m Im.nop)) ++ [110,111,112,10] = (tk ++ wt) ++ L6.text (List.replicate (m+1) Im.nop) by rw [List.append_assoc,HNT.out])
     generalize ((tk ++ wt) ++ L6.text (List.replicate m Im.nop)) = tm at *
     have g1:¬ 9223372036854775807 < tm.length+4:=by have:=HL2.out;omega
     go_wp2_with fail
     go_roundw
     case rel=>exact ⟨m+1,by go_num,by omega,by rw [← HS.out];exact congrArg Value.string (app_eq tm [110,111,112,10]),HBY.out⟩
     case measure=>simp [intOf];omega
    ·obtain rfl:m = mn:=by omega
     have HB3:=Lib.hid (HBR.out.trans (HBY.out.mono HBR.out.size))
     have HTE:=Lib.hid (show ((tk ++ wt) ++ L6.text (List.replicate m Im.nop)) = Im.txtK rs (k+1) by rw [← HNX.out,HT.out])
     generalize ((tk ++ wt) ++ L6.text (List.replicate m Im.nop)) = tm at *
     go_wp2_with fail
     go_roundw
     case rel=>exact ⟨k+1,by go_num,by omega,by rw [HTE.out],HB3.out⟩
     case measure=>simp [intOf];omega
  ·obtain rfl:k = rs.length:=by omega
   have HL1:=Lib.hid (HLEN.out rs.length)
   generalize Im.txtK rs rs.length = tk at *
   have g1:¬ 9223372036854775807 < tk.length+9:=by have:=HL1.out;omega
   go_wp2_with fail
   go_ret
   rw [HFIN.out]
   exact ⟨congrArg (fun x=>Ending.returned (.string x)) (app_eq tk [104,58,32,104,101,97,100,115,10]),HBR.out⟩
def Im.stOf:Im.R→Im.St
 | .ok S=>S
 | .bad _=>Im.start
end Go.Proofs.YtpcpaoeajcjoiaaGreatDoor
