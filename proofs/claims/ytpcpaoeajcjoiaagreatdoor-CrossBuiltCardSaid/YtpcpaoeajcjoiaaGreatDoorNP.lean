/- Texts joined, what is not reached left out. -/
import Derived.Lib.Strings
import Derived.Test.YtpcpaoeajcjoiaaGreatDoorRows
import Derived.WalkKit
import Derived.WalkLawsBesides
import Derived.WalkSpells
import Derived.Lib.Hide
import Derived.Lib.ConvBytes
import Derived.Test.YtpcpaoeajcjoiaaGreatDoorKA
import Derived.Deep.RegionHeld3
import Derived.Deep.AppendLies
import Derived.IntWalk
import Derived.Outline
set_option linter.unusedVariables false
set_option linter.unusedSimpArgs false
namespace Go.Proofs.YtpcpaoeajcjoiaaGreatDoor.Nm
def okc (c : UInt8) : Bool:=decide (33 ≤ c.toNat) && decide (c.toNat ≤ 126)
def right (l : List UInt8) : Bool:=l.all okc && (!l.isEmpty && decide (l.length ≤ 31))
def hashN (l : List UInt8) : Nat:=l.foldl (fun h c=>(h * 31 + c.toNat) % 4294967296) 0
def lengthN (n : Nat) : Nat:=if 31 < n then 0 else (14 + n + 3) / 4 * 4
def fold8 (h : Nat) : Nat:=(h % 16) ^^^ (h / 16 % 16) ^^^ (h / 256 % 16) ^^^ (h / 4096 % 16) ^^^ (h / 65536 % 16) ^^^ (h / 1048576 % 16) ^^^ (h / 16777216 % 16) ^^^ (h / 268435456 % 16)
theorem hashN_lt (l : List UInt8) : hashN l < 4294967296:=by
 unfold hashN
 rcases List.eq_nil_or_concat l with rfl | ⟨m,c,rfl⟩
 ·simp
 ·simp;omega
theorem hashN_snoc (l : List UInt8) (c : UInt8) : hashN (l ++ [c]) = (hashN l * 31 + c.toNat) % 4294967296:=by
 simp [hashN]
theorem take_snoc (s : ByteArray) (k : Nat) (h : k < s.size) : s.data.toList.take (k + 1) = s.data.toList.take k ++ [s[k]]:=by
 rw [List.take_succ_eq_append_getElem (by simpa using h)];rfl
theorem all_snoc (l : List UInt8) (c : UInt8) : (l ++ [c]).all okc = (l.all okc && okc c):=by simp
theorem mem_getElem (s : ByteArray) (k : Nat) (h : k < s.size) : s[k] ∈ s.data.toList:=
 Array.mem_toList_iff.2 (Array.getElem_mem (xs:=s.data) h)
theorem right_no (s : ByteArray) (k : Nat) (h : k < s.size) (hc : okc s[k] = false) : right s.data.toList = false:=by
 have : s.data.toList.all okc = false:=List.all_eq_false.2 ⟨s[k],mem_getElem s k h,by simp [hc]⟩
 simp [right,this]
theorem right_end (s : ByteArray) (k : Nat) (h : ¬ k < s.size) (ha : (s.data.toList.take k).all okc = true) : right s.data.toList = (!s.data.toList.isEmpty && decide (s.size ≤ 31)):=by
 rw [List.take_of_length_le (by simp;have : s.data.size = s.size:=rfl;omega)] at ha
 have : s.data.toList.length = s.size:=rfl
 simp only [right,ha,this,Bool.true_and]
theorem okc_low {c : UInt8} (h : (c.toNat : Int) ≤ 32) : okc c = false:=by simp [okc];omega
theorem okc_high {c : UInt8} (h : 126 < (c.toNat : Int)) : okc c = false:=by simp [okc];omega
theorem okc_ok {c : UInt8} (h : ¬ (c.toNat : Int) ≤ 32) (h2 : ¬ 126 < (c.toNat : Int)) : okc c = true:=by simp [okc];omega
theorem all_step (s : ByteArray) (k : Nat) (h : k < s.size) (ha : (s.data.toList.take k).all okc = true) (hc : okc s[k] = true) : (s.data.toList.take (k + 1)).all okc = true:=by
 rw [take_snoc s k h,all_snoc,ha,hc];rfl
theorem toList_nil (s : ByteArray) : s.toList = s.data.toList:=Lib.toList_data s
theorem isEmpty_of {l : List UInt8} (h : ¬ l = []) : l.isEmpty = false:=by cases l <;> simp_all
theorem hash_step (s : ByteArray) (k : Nat) (h : k < s.size) : ((hashN (s.data.toList.take k) : Int) * 31 % 4294967296 + (s[k].toNat : Int) % 4294967296) % 4294967296 = (hashN (s.data.toList.take (k + 1)) : Int):=by
 rw [take_snoc s k h,hashN_snoc];omega
def rotN (x k : Nat) : Nat:=(x * 2 ^ k % 4294967296) ||| (x / 2 ^ (32 - k))
theorem rotN_lt {x k : Nat} (hx : x < 4294967296) : rotN x k < 4294967296:=
 Nat.or_lt_two_pow (n:=32) (Nat.mod_lt _ (by decide)) (Nat.lt_of_le_of_lt (Nat.div_le_self _ _) hx)
theorem xor_lt {x y : Nat} (hx : x < 4294967296) (hy : y < 4294967296) : x ^^^ y < 4294967296:=Nat.xor_lt_two_pow (n:=32) hx hy
theorem take_all (s : ByteArray) (k : Nat) (h : ¬ k < s.size) : s.data.toList.take k = s.data.toList:=
 List.take_of_length_le (by have : s.data.toList.length = s.size:=rfl;omega)
def mixN (x k : Nat) : Nat:=x ^^^ rotN x k
theorem mixN_lt {x : Nat} (k : Nat) (hx : x < 4294967296) : mixN x k < 4294967296:=xor_lt hx (rotN_lt hx)
theorem testBit_rot (x k j : Nat) : (rotN x k).testBit j = ((decide (j < 32) && (decide (k ≤ j) && x.testBit (j - k))) || x.testBit (32 - k + j)):=by
 rw [rotN,Nat.testBit_or,show 4294967296 = 2 ^ 32 from rfl,Nat.testBit_mod_two_pow,Nat.testBit_mul_two_pow,Nat.testBit_div_two_pow,Nat.add_comm j]
theorem testBit_high {x : Nat} (hx : x < 4294967296) (j : Nat) (hj : 32 ≤ j) : x.testBit j = false:=
 Nat.testBit_lt_two_pow (Nat.lt_of_lt_of_le (show x < 2 ^ 32 from hx) (Nat.pow_le_pow_right (by decide) hj))
theorem xor7 : ∀ a b c d e f g : Bool,(a != (b != (c != (d != (e != (f != g)))))) = (g != (c != (e != (a != (f != (b != d)))))):=by decide
theorem mix_fold (x : Nat) (hx : x < 4294967296) : mixN (mixN (mixN x 16) 8) 4 % 16 = fold8 x:=by
 have hb:=testBit_high hx
 apply Nat.eq_of_testBit_eq
 intro j
 simp only [fold8,mixN,show (16 : Nat) = 2 ^ 4 from rfl,show (256 : Nat) = 2 ^ 8 from rfl,show (4096 : Nat) = 2 ^ 12 from rfl,show (65536 : Nat) = 2 ^ 16 from rfl,show (1048576 : Nat) = 2 ^ 20 from rfl,
  show (16777216 : Nat) = 2 ^ 24 from rfl,show (268435456 : Nat) = 2 ^ 28 from rfl,Nat.testBit_mod_two_pow,Nat.testBit_xor,testBit_rot,Nat.testBit_div_two_pow]
 by_cases h : j < 4
 ·have hc : j = 0 ∨ j = 1 ∨ j = 2 ∨ j = 3:=by omega
  rcases hc with rfl | rfl | rfl | rfl <;> simp [hb] <;> exact xor7 _ _ _ _ _ _ _
 ·simp [h]
end Go.Proofs.YtpcpaoeajcjoiaaGreatDoor.Nm
namespace Go.Proofs.YtpcpaoeajcjoiaaGreatDoor
open Go.RowKit
theorem xret_bool {a b : Bool} (h : a = b) : Ending.returned (.bool a) = .returned (.bool b):=by rw [h]
set_option maxHeartbeats 400000 in
theorem xright_own (s : ByteArray) (w : World) (hs : s.size ≤ maxLen) :
  Calls Tryz.prog 59 #[.string s] w fun e w'=>e = .returned (.bool (Nm.right s.data.toList)) ∧ w = w':=by
 unfold maxLen at hs
 go_enter Tryz.func59,Tryz.ntmps59
 go_wp2
 go_loop [6] (fun i=>∃ k : Nat,k ≤ s.size ∧ i = .int .i64 k ∧ (s.data.toList.take k).all Nm.okc = true) (fun i=>s.size - (intOf i).toNat)
 case atStart=>exact ⟨0,Nat.zero_le _,rfl,by simp⟩
 case round=>
  obtain ⟨k,hk,rfl,hall⟩:=hrel
  have HA:=Lib.hid hall;clear hall
  by_cases hlt : k < s.size
  ·by_cases h1 : (s[k].toNat : Int) ≤ 32
   ·have HF:=Lib.hid (Nm.right_no s k hlt (Nm.okc_low h1))
    go_wp2
    go_ret
    exact ⟨xret_bool HF.out.symm,rfl⟩
   ·by_cases h2 : 126 < (s[k].toNat : Int)
    ·have HF:=Lib.hid (Nm.right_no s k hlt (Nm.okc_high h2))
     go_wp2
     go_ret
     exact ⟨xret_bool HF.out.symm,rfl⟩
    ·have HN:=Lib.hid (Nm.all_step s k hlt HA.out (Nm.okc_ok h1 h2))
     go_wp2
     go_round
     case rel=>exact ⟨k + 1,by omega,by go_num,HN.out⟩
     case measure=>simp [intOf];omega
  ·have HF:=Lib.hid (Nm.right_end s k hlt HA.out)
   go_wp2
   ·have h0 : s.toList = []:=by assumption
    go_ret
    exact ⟨xret_bool (by rw [HF.out,← Nm.toList_nil,h0];rfl),rfl⟩
   ·have h0 : ¬ s.toList = []:=by assumption
    rw [Nm.toList_nil] at h0
    go_ret
    exact ⟨xret_bool (by rw [HF.out,Nm.toList_nil,Nm.isEmpty_of h0];simp;omega),rfl⟩
theorem ret_bool {a b : Bool} (h : a = b) : Ending.returned (.bool a) = .returned (.bool b):=by rw [h]
theorem ret_int {k : IntKind} {a b : Int} (h : a = b) : Ending.returned (.int k a) = .returned (.int k b):=by rw [h]
theorem conv_sb {P : Program} (w : World) (src dst e : TypeId) (s : ByteArray) {u : TypeDesc} (hs : P.underlying src = some u) (hd : P.underlying dst = some (.slice e)) (he : P.underlying e = some (.int .u8)) :
  ∃ w1 c,(convert src dst (.string s)).run P w = .ok (.slice (some ⟨w.heap.size,0,none⟩) s.size c) w1 ∧
   (∀ j,j < s.size → w1.cell? ⟨w.heap.size,j,none⟩ = some (.int .u8 (s.data.toList.getD j 0).toNat)) ∧ Below w.heap.size w w1 ∧ w.heap.size < w1.heap.size:=
 ⟨_,_,Lib.run_convert_string_bytes w src dst e s hs hd he,fun j hj=>Lib.bytesWorld_cell w e s j hj,
  ⟨rfl,rfl,rfl,by rw [Lib.bytesWorld_size];omega,fun k hk=>Lib.bytesWorld_at_old w e s k hk⟩,by rw [Lib.bytesWorld_size];omega⟩
theorem ofInt_u32 (a : Nat) (ha : a < 4294967296) : (BitVec.ofInt 32 (a : Int)).toNat = a:=by
 rw [BitVec.ofInt_natCast,BitVec.toNat_ofNat];exact Nat.mod_eq_of_lt (by omega)
theorem bits_xor_u32 (a b : Nat) (ha : a < 4294967296) (hb : b < 4294967296) : bits .xor .u32 (a : Int) (b : Int) = ((a ^^^ b : Nat) : Int):=by
 have h:=Nm.xor_lt ha hb
 show IntKind.u32.wrap ((BitVec.ofInt 32 (a : Int) ^^^ BitVec.ofInt 32 (b : Int)).toNat : Int) = _
 rw [BitVec.toNat_xor,ofInt_u32 a ha,ofInt_u32 b hb,IntKind.wrap_u32];omega
theorem bits_or_u32 (a b : Nat) (ha : a < 4294967296) (hb : b < 4294967296) : bits .or .u32 (a : Int) (b : Int) = ((a ||| b : Nat) : Int):=by
 have h : a ||| b < 4294967296:=Nat.or_lt_two_pow (n:=32) ha hb
 show IntKind.u32.wrap ((BitVec.ofInt 32 (a : Int) ||| BitVec.ofInt 32 (b : Int)).toNat : Int) = _
 rw [BitVec.toNat_or,ofInt_u32 a ha,ofInt_u32 b hb,IntKind.wrap_u32];omega
theorem bits_and_u32 (a b : Nat) (ha : a < 4294967296) (hb : b < 4294967296) : bits .and .u32 (a : Int) (b : Int) = ((a &&& b : Nat) : Int):=by
 have h : a &&& b < 4294967296:=Nat.lt_of_le_of_lt Nat.and_le_left ha
 show IntKind.u32.wrap ((BitVec.ofInt 32 (a : Int) &&& BitVec.ofInt 32 (b : Int)).toNat : Int) = _
 rw [BitVec.toNat_and,ofInt_u32 a ha,ofInt_u32 b hb,IntKind.wrap_u32];omega
theorem rot16 (x : Nat) (w : World) (hx : x < 4294967296) :
  Calls Tryz.prog 232 #[.int .u32 x,.int .i64 16] w fun e w'=>e = .returned (.int .u32 (Nm.rotN x 16 : Int)) ∧ w = w':=by
 have hk : bits .and .u64 16 31 = 16:=by decide
 have HX:=Lib.hid (show bits .or .u32 ((x : Int) * 65536 % 4294967296) ((x : Int) / 65536) = (Nm.rotN x 16 : Int) from
  bits_or_u32 (x * 65536 % 4294967296) (x / 65536) (Nat.mod_lt _ (by decide)) (Nat.lt_of_le_of_lt (Nat.div_le_self _ _) hx))
 go_enter Tryz.func232,Tryz.ntmps232
 go_wp2
 go_ret
 exact ⟨ret_int HX.out,rfl⟩
theorem rot8 (x : Nat) (w : World) (hx : x < 4294967296) :
  Calls Tryz.prog 232 #[.int .u32 x,.int .i64 8] w fun e w'=>e = .returned (.int .u32 (Nm.rotN x 8 : Int)) ∧ w = w':=by
 have hk : bits .and .u64 8 31 = 8:=by decide
 have HX:=Lib.hid (show bits .or .u32 ((x : Int) * 256 % 4294967296) ((x : Int) / 16777216) = (Nm.rotN x 8 : Int) from
  bits_or_u32 (x * 256 % 4294967296) (x / 16777216) (Nat.mod_lt _ (by decide)) (Nat.lt_of_le_of_lt (Nat.div_le_self _ _) hx))
 go_enter Tryz.func232,Tryz.ntmps232
 go_wp2
 go_ret
 exact ⟨ret_int HX.out,rfl⟩
theorem rot4 (x : Nat) (w : World) (hx : x < 4294967296) :
  Calls Tryz.prog 232 #[.int .u32 x,.int .i64 4] w fun e w'=>e = .returned (.int .u32 (Nm.rotN x 4 : Int)) ∧ w = w':=by
 have hk : bits .and .u64 4 31 = 4:=by decide
 have HX:=Lib.hid (show bits .or .u32 ((x : Int) * 16 % 4294967296) ((x : Int) / 268435456) = (Nm.rotN x 4 : Int) from
  bits_or_u32 (x * 16 % 4294967296) (x / 268435456) (Nat.mod_lt _ (by decide)) (Nat.lt_of_le_of_lt (Nat.div_le_self _ _) hx))
 go_enter Tryz.func232,Tryz.ntmps232
 go_wp2
 go_ret
 exact ⟨ret_int HX.out,rfl⟩
set_option maxHeartbeats 400000 in
theorem hash_own (s : ByteArray) (w : World) (hs : s.size ≤ maxLen) :
  Calls Tryz.prog 168 #[.string s] w fun e w'=>e = .returned (.int .i64 (Nm.fold8 (Nm.hashN s.data.toList))) ∧ Below w.heap.size w w':=by
 unfold maxLen at hs
 obtain ⟨w1,c,hcv,hcell,hbel,hsz⟩:=conv_sb (P:=Tryz.prog) w 9 26 5 s Tryz.underlying9 Tryz.underlying26 Tryz.underlying5
 have HC:=Lib.hid hcell;clear hcell
 go_enter Tryz.func168,Tryz.ntmps168
 go_wp2
 clear hcv
 go_loop [3,9] (fun h i=>∃ k : Nat,k ≤ s.size ∧ i = .int .i64 k ∧ h = .int .u32 (Nm.hashN (s.data.toList.take k))) (fun _ i=>s.size - (intOf i).toNat)
 case atStart=>exact ⟨0,Nat.zero_le _,rfl,rfl⟩
 case round=>
  obtain ⟨k,hk,rfl,rfl⟩:=hrel
  by_cases hlt : k < s.size
  ·have hc:=HC.out k hlt
   go_wp2
   go_round
   case rel=>exact ⟨k + 1,by omega,by go_num,congrArg (Value.int .u32) (Nm.hash_step s k hlt)⟩
   case measure=>simp [intOf];omega
  ·have hl:=Nm.hashN_lt (s.data.toList.take k)
   have HE:=Lib.hid (Nm.take_all s k hlt)
   generalize hh : Nm.hashN (s.data.toList.take k) = h at *
   have HH:=Lib.hid hh;clear hh
   have h1:=Nm.mixN_lt 16 hl
   have h2:=Nm.mixN_lt 8 h1
   have h3:=Nm.mixN_lt 4 h2
   have HX1:=Lib.hid (show bits .xor .u32 (h : Int) (Nm.rotN h 16 : Int) = (Nm.mixN h 16 : Int) from bits_xor_u32 _ _ hl (Nm.rotN_lt hl))
   have HX2:=Lib.hid (show bits .xor .u32 (Nm.mixN h 16 : Int) (Nm.rotN (Nm.mixN h 16) 8 : Int) = (Nm.mixN (Nm.mixN h 16) 8 : Int) from bits_xor_u32 _ _ h1 (Nm.rotN_lt h1))
   have HX3:=Lib.hid (show bits .xor .u32 (Nm.mixN (Nm.mixN h 16) 8 : Int) (Nm.rotN (Nm.mixN (Nm.mixN h 16) 8) 4 : Int) = (Nm.mixN (Nm.mixN (Nm.mixN h 16) 8) 4 : Int) from bits_xor_u32 _ _ h2 (Nm.rotN_lt h2))
   have HF:=Lib.hid (show Nm.mixN (Nm.mixN (Nm.mixN h 16) 8) 4 % 16 = Nm.fold8 (Nm.hashN s.data.toList) by rw [← HE.out,HH.out,Nm.mix_fold h hl])
   go_wp2_with fail
   refine (rot16 h _ hl).mono ?_
   rintro e w' ⟨rfl,rfl⟩
   have hx1:=HX1.out
   go_wp2_with fail
   clear hx1
   generalize Nm.mixN h 16 = m1 at *
   refine (rot8 m1 _ h1).mono ?_
   rintro e w' ⟨rfl,rfl⟩
   have hx2:=HX2.out
   go_wp2_with fail
   clear hx2
   generalize Nm.mixN m1 8 = m2 at *
   refine (rot4 m2 _ h2).mono ?_
   rintro e w' ⟨rfl,rfl⟩
   have hx3:=HX3.out
   go_wp2
   clear hx3
   have HX4:=bits_and_u32 (Nm.mixN m2 4) 15 h3 (by decide)
   rw [Nat.and_two_pow_sub_one_eq_mod _ 4] at HX4
   have hlt16:=Nat.mod_lt (Nm.mixN m2 4) (show 0 < 2 ^ 4 by decide)
   go_ret
   refine ⟨ret_int ?_,hbel⟩
   rw [← HF.out]
   show RowKit.wrap64 (bits .and .u32 (Nm.mixN m2 4 : Int) ((15 : Nat) : Int)) = _
   rw [HX4,IntWalk.wrap64_in _ (by omega)]
end Go.Proofs.YtpcpaoeajcjoiaaGreatDoor
namespace Go.Proofs.YtpcpaoeajcjoiaaGreatDoor
open Go.RowKit Kit
theorem bt : ByteTy Tryz.prog 26 5:=
 ⟨Tryz.underlying26,Tryz.underlying5,by
  have h : (Tryz.prog.info? 5).map (fun i=>(i.zero,i.size,i.bytes)) = some (some (.int .u8 0),1,1):=by kernel_rfl
  obtain ⟨i,hi,h0,h1,h2⟩:=info_parts h
  exact ⟨i,hi,h0,h1,h2⟩⟩
abbrev hv (s : ByteArray) (fl : Int) (a b c : Nat) : Value:=.agg #[.string s,.int .i64 fl,.int .u32 a,.int .u32 b,.int .u32 c]
def lenOf : Value → Nat | .slice _ n _=>n | _=>0
def Nm.nl (l : List UInt8) : Nat:=(l.getD 13 0).toNat
def Nm.name (l : List UInt8) : List UInt8:=(l.drop 14).take (Nm.nl l)
abbrev hv0 : Value:=.agg #[.string ⟨#[]⟩,.int .i64 0,.int .u32 0,.int .u32 0,.int .u32 0]
abbrev w0 (w : World) : World:=w.alloc (.cells #[.string ⟨#[]⟩,.int .i64 0,.int .u32 0,.int .u32 0,.int .u32 0] 55)
structure RF (w : World) (g off cap n k f N : Nat) (nm : List UInt8) (R : Bool) (pv : Nat → Nat) (x0 x4 x8 : Nat) (v2 : Value) (a3 : Option Addr) (m c3 : Nat) : Prop where
 c13 : ∀ W',Below w.heap.size w W' → W'.cell? ⟨g,off + 13,none⟩ = some (.int .u8 k)
 c12 : ∀ W',Below w.heap.size w W' → W'.cell? ⟨g,off + 12,none⟩ = some (.int .u8 f)
 cv : ∀ W',Below w.heap.size w W' → (convert 26 9 v2).run Tryz.prog W' = .ok (.string ⟨nm.toArray⟩) W'
 s2 : ∀ W',(Instr.slice 26 (.slice (some ⟨g,off,none⟩) n cap) (some (.int .i64 14)) (some (.int .i64 (14 + (k : Int)))) none).run Tryz.prog W' = .ok v2 W'
 s3 : N ≤ n → ∀ W',(Instr.slice 26 (.slice (some ⟨g,off,none⟩) n cap) (some (.int .i64 (14 + (k : Int)))) (some (.int .i64 (N : Int))) none).run Tryz.prog W' = .ok (.slice a3 m c3) W'
 s4 : ∀ W',(Instr.slice 26 (.slice (some ⟨g,off,none⟩) n cap) (some (.int .i64 4)) none none).run Tryz.prog W' = .ok (.slice (some ⟨g,off + 4,none⟩) (n - 4) (cap - 4)) W'
 s8 : ∀ W',(Instr.slice 26 (.slice (some ⟨g,off,none⟩) n cap) (some (.int .i64 8)) none none).run Tryz.prog W' = .ok (.slice (some ⟨g,off + 8,none⟩) (n - 8) (cap - 8)) W'
 hm : N ≤ n → m + (14 + k) = N
 ha : N ≤ n → 0 < m → a3 = some ⟨g,off + (14 + k),none⟩
 pad : N ≤ n → ∀ j,j < m → ∀ W',Below w.heap.size w W' → W'.cell? ⟨g,off + (14 + k) + j,none⟩ = some (.int .u8 (pv j))
 len : ∀ W',Calls Tryz.prog 58 #[.string ⟨nm.toArray⟩] W' fun e w'=>e = .returned (.int .i64 N) ∧ W' = w'
 right : ∀ W',Calls Tryz.prog 59 #[.string ⟨nm.toArray⟩] W' fun e w'=>e = .returned (.bool R) ∧ W' = w'
 w0 : ∀ W',Below w.heap.size w W' → Calls Tryz.prog 60 #[.slice (some ⟨g,off,none⟩) n cap] W' fun e w'=>e = .returned (.int .u32 x0) ∧ w' = W'.drew
 w4 : ∀ W',Below w.heap.size w W' → Calls Tryz.prog 60 #[.slice (some ⟨g,off + 4,none⟩) (n - 4) (cap - 4)] W' fun e w'=>e = .returned (.int .u32 x4) ∧ w' = W'.drew
 w8 : ∀ W',Below w.heap.size w W' → Calls Tryz.prog 60 #[.slice (some ⟨g,off + 8,none⟩) (n - 8) (cap - 8)] W' fun e w'=>e = .returned (.int .u32 x8) ∧ w' = W'.drew
def RPost (w : World) (n f N : Nat) (nm : List UInt8) (R : Bool) (pv : Nat → Nat) (x0 x4 x8 m : Nat) (e : Ending) (w' : World) : Prop:=
 ((R = false ∨ 15 < f ∨ n < N ∨ ∃ j,j < m ∧ pv j ≠ 0) → e = .returned (.tuple #[hv0,.int .i64 0,.int .i64 45])) ∧
   ((R = true ∧ f ≤ 15 ∧ N ≤ n ∧ ∀ j,j < m → pv j = 0) → e = .returned (.tuple #[hv ⟨nm.toArray⟩ f x0 x4 x8,.int .i64 N,.int .i64 0])) ∧ Below w.heap.size w w'
theorem RPost.bad {w : World} {n f N : Nat} {nm : List UInt8} {R : Bool} {pv : Nat → Nat} {x0 x4 x8 m : Nat} {w' : World} (h : R = false ∨ 15 < f ∨ n < N ∨ ∃ j,j < m ∧ pv j ≠ 0) (hb : Below w.heap.size w w') :
  RPost w n f N nm R pv x0 x4 x8 m (.returned (.tuple #[hv0,.int .i64 0,.int .i64 45])) w':=⟨fun _=>rfl,fun h2=>by
   rcases h with h | h | h | ⟨j,h,h'⟩
   ·rw [h] at h2;cases h2.1
   ·omega
   ·omega
   ·exact absurd (h2.2.2.2 j h) h',hb⟩
end Go.Proofs.YtpcpaoeajcjoiaaGreatDoor
