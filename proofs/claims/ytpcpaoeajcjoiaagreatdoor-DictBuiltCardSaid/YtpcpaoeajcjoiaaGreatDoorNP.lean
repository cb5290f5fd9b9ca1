/- Texts joined, what is not reached left out. -/
import Derived.Lib.Strings
import Derived.Test.YtpcpaoeajcjoiaaGreatDoorRows
import Derived.WalkKit
import Derived.WalkLawsBesides
import Derived.WalkSpells
import Derived.Lib.Hide
import Derived.Lib.ConvBytes
import Derived.Test.YtpcpaoeajcjoiaaGreatDoorKA
import Derived.Deep.RegionHeld3
import Derived.Deep.AppendLies
import Derived.IntWalk
import Derived.Outline
set_option linter.unusedVariables false
set_option linter.unusedSimpArgs false
namespace Go.Proofs.YtpcpaoeajcjoiaaGreatDoor.Nm
def okc (c:UInt8):Bool:=decide (33≤c.toNat) && decide (c.toNat≤126)
def right (l:List UInt8):Bool:=l.all okc && (!l.isEmpty && decide (l.length≤31))
def hashN (l:List UInt8):Nat:=l.foldl (fun h c=>(h * 31+c.toNat) % 4294967296) 0
def lengthN (n:Nat):Nat:=if 31 < n then 0 else (14+n+3) / 4 * 4
def fold8 (h:Nat):Nat:=(h % 16) ^^^ (h / 16 % 16) ^^^ (h / 256 % 16) ^^^ (h / 4096 % 16) ^^^ (h / 65536 % 16) ^^^ (h / 1048576 % 16) ^^^ (h / 16777216 % 16) ^^^ (h / 268435456 % 16)
theorem hashN_lt (l:List UInt8):hashN l < 4294967296:=by
 unfold hashN
 rcases List.eq_nil_or_concat l with rfl | ⟨m,c,rfl⟩
 ·simp
 ·simp;omega
theorem hashN_snoc (l:List UInt8) (c:UInt8):hashN (l ++ [c]) = (hashN l * 31+c.toNat) % 4294967296:=by
 simp [hashN]
theorem take_snoc (s:ByteArray) (k:Nat) (h:k < s.size):s.data.toList.take (k+1) = s.data.toList.take k ++ [s[k]]:=by
 rw [List.take_succ_eq_append_getElem (by simpa using h)];rfl
theorem all_snoc (l:List UInt8) (c:UInt8):(l ++ [c]).all okc = (l.all okc && okc c):=by simp
theorem mem_getElem (s:ByteArray) (k:Nat) (h:k < s.size):s[k] ∈ s.data.toList:=
 Array.mem_toList_iff.2 (Array.getElem_mem (xs:=s.data) h)
theorem right_no (s:ByteArray) (k:Nat) (h:k < s.size) (hc:okc s[k] = false):right s.data.toList = false:=by
 have:s.data.toList.all okc = false:=List.all_eq_false.2 ⟨s[k],mem_getElem s k h,by simp [hc]⟩
 simp [right,this]
theorem right_end (s:ByteArray) (k:Nat) (h:¬ k < s.size) (ha:(s.data.toList.take k).all okc = true):right s.data.toList = (!s.data.toList.isEmpty && decide (s.size≤31)):=by
 rw [List.take_of_length_le (by simp;have:s.data.size = s.size:=rfl;omega)] at ha
 have:s.data.toList.length = s.size:=rfl
 simp only [right,ha,this,Bool.true_and]
theorem okc_low {c:UInt8} (h:(c.toNat:Int)≤32):okc c = false:=by simp [okc];omega
theorem okc_high {c:UInt8} (h:126 < (c.toNat:Int)):okc c = false:=by simp [okc];omega
theorem okc_ok {c:UInt8} (h:¬ (c.toNat:Int)≤32) (h2:¬ 126 < (c.toNat:Int)):okc c = true:=by simp [okc];omega
theorem all_step (s:ByteArray) (k:Nat) (h:k < s.size) (ha:(s.data.toList.take k).all okc = true) (hc:okc s[k] = true):(s.data.toList.take (k+1)).all okc = true:=by
 rw [take_snoc s k h,all_snoc,ha,hc];rfl
theorem toList_nil (s:ByteArray):s.toList = s.data.toList:=Lib.toList_data s
theorem isEmpty_of {l:List UInt8} (h:¬ l = []):l.isEmpty = false:=by cases l <;> simp_all
theorem nonempty_of (s:ByteArray) (h:0 < s.size):¬ s.data.toList = []:=by
 intro e;have:s.data.toList.length = s.size:=rfl;rw [e] at this;simp at this;omega
theorem empty_of (s:ByteArray) (h:¬ 0 < s.size):s.data.toList = []:=
 List.eq_nil_of_length_eq_zero (by have:s.data.toList.length = s.size:=rfl;omega)
theorem hash_step (s:ByteArray) (k:Nat) (h:k < s.size):((hashN (s.data.toList.take k):Int) * 31 % 4294967296+(s[k].toNat:Int) % 4294967296) % 4294967296 = (hashN (s.data.toList.take (k+1)):Int):=by
 rw [take_snoc s k h,hashN_snoc];omega
def foldN (h:Nat):Nat→Nat
 | 0=>0
 | j+1=>foldN h j ^^^ (h / 16 ^ j % 16)
theorem foldN_8 (h:Nat):foldN h 8 = fold8 h:=by simp [foldN,fold8]
theorem foldN_lt (h:Nat):∀ j,foldN h j < 16
 | 0=>by simp [foldN]
 | j+1=>by
  have:=foldN_lt h j
  exact Nat.xor_lt_two_pow (n:=4) this (Nat.mod_lt _ (by decide))
def leftN (h j:Nat):Nat:=h / 16 ^ j
theorem leftN_0 (h:Nat):leftN h 0 = h:=by simp [leftN]
theorem leftN_lt {h:Nat} (hl:h < 4294967296) (j:Nat):leftN h j < 4294967296:=Nat.lt_of_le_of_lt (Nat.div_le_self _ _) hl
theorem leftN_succ (h j:Nat):leftN h (j+1) = leftN h j / 16:=by rw [leftN,leftN,Nat.pow_succ,Nat.div_div_eq_div_mul]
theorem foldN_succ (h j:Nat):foldN h (j+1) = foldN h j ^^^ (leftN h j % 16):=rfl
def rotN (x k:Nat):Nat:=(x * 2 ^ k % 4294967296) ||| (x / 2 ^ (32 - k))
theorem rotN_lt {x k:Nat} (hx:x < 4294967296):rotN x k < 4294967296:=
 Nat.or_lt_two_pow (n:=32) (Nat.mod_lt _ (by decide)) (Nat.lt_of_le_of_lt (Nat.div_le_self _ _) hx)
theorem xor_lt {x y:Nat} (hx:x < 4294967296) (hy:y < 4294967296):x ^^^ y < 4294967296:=Nat.xor_lt_two_pow (n:=32) hx hy
theorem take_all (s:ByteArray) (k:Nat) (h:¬ k < s.size):s.data.toList.take k = s.data.toList:=
 List.take_of_length_le (by have:s.data.toList.length = s.size:=rfl;omega)
def mixN (x k:Nat):Nat:=x ^^^ rotN x k
theorem mixN_lt {x:Nat} (k:Nat) (hx:x < 4294967296):mixN x k < 4294967296:=xor_lt hx (rotN_lt hx)
theorem testBit_rot (x k j:Nat):(rotN x k).testBit j = ((decide (j < 32) && (decide (k≤j) && x.testBit (j - k))) || x.testBit (32 - k+j)):=by
 rw [rotN,Nat.testBit_or,show 4294967296 = 2 ^ 32 from rfl,Nat.testBit_mod_two_pow,Nat.testBit_mul_two_pow,Nat.testBit_div_two_pow,Nat.add_comm j]
theorem testBit_high {x:Nat} (hx:x < 4294967296) (j:Nat) (hj:32≤j):x.testBit j = false:=
 Nat.testBit_lt_two_pow (Nat.lt_of_lt_of_le (show x < 2 ^ 32 from hx) (Nat.pow_le_pow_right (by decide) hj))
theorem xor7:∀ a b c d e f g:Bool,(a != (b != (c != (d != (e != (f != g)))))) = (g != (c != (e != (a != (f != (b != d)))))):=by decide
theorem mix_fold (x:Nat) (hx:x < 4294967296):mixN (mixN (mixN x 16) 8) 4 % 16 = fold8 x:=by
 have hb:=testBit_high hx
 apply Nat.eq_of_testBit_eq
 intro j
 simp only [fold8,mixN,show (16:Nat) = 2 ^ 4 from rfl,show (256:Nat) = 2 ^ 8 from rfl,show (4096:Nat) = 2 ^ 12 from rfl,show (65536:Nat) = 2 ^ 16 from rfl,show (1048576:Nat) = 2 ^ 20 from rfl,
  show (16777216:Nat) = 2 ^ 24 from rfl,show (268435456:Nat) = 2 ^ 28 from rfl,Nat.testBit_mod_two_pow,Nat.testBit_xor,testBit_rot,Nat.testBit_div_two_pow]
 by_cases h:j < 4
 ·have hc:j = 0 ∨ j = 1 ∨ j = 2 ∨ j = 3:=by omega
  rcases hc with rfl | rfl | rfl | rfl <;> simp [hb] <;> exact xor7 _ _ _ _ _ _ _
 ·simp [h]
end Go.Proofs.YtpcpaoeajcjoiaaGreatDoor.Nm
namespace Go.Proofs.YtpcpaoeajcjoiaaGreatDoor
open Go.RowKit
theorem ret_bool {a b:Bool} (h:a = b):Ending.returned (.bool a) = .returned (.bool b):=by rw [h]
theorem ret_int {k:IntKind} {a b:Int} (h:a = b):Ending.returned (.int k a) = .returned (.int k b):=by rw [h]
theorem andNot_len:∀ n:Nat,n≤31→bits .andNot .i64 (14+(n:Int)+4 - 1) 3 = (Nm.lengthN n:Int):=by
 intro n hn
 have:n < 32:=by omega
 revert n;decide
theorem len_own (s:ByteArray) (w:World) (hs:s.size≤maxLen) :
  Calls Tryz.prog 58 #[.string s] w fun e w'=>e = .returned (.int .i64 (Nm.lengthN s.size))∧w = w':=by
 unfold maxLen at hs
 by_cases h:31 < s.size
 ·have HF:=Lib.hid (show Nm.lengthN s.size = 0 by unfold Nm.lengthN;rw [if_pos h])
  go_enter Tryz.func58,Tryz.ntmps58
  go_wp2
  go_ret
  exact ⟨ret_int (by rw [HF.out];rfl),rfl⟩
 ·go_enter Tryz.func58,Tryz.ntmps58
  go_wp2
  go_ret
  exact ⟨ret_int (andNot_len s.size (by omega)),rfl⟩
theorem conv_sb {P:Program} (w:World) (src dst e:TypeId) (s:ByteArray) {u:TypeDesc} (hs:P.underlying src = some u) (hd:P.underlying dst = some (.slice e)) (he:P.underlying e = some (.int .u8)) :
  ∃ w1 c,(convert src dst (.string s)).run P w = .ok (.slice (some ⟨w.heap.size,0,none⟩) s.size c) w1 ∧
   (∀ j,j < s.size→w1.cell? ⟨w.heap.size,j,none⟩ = some (.int .u8 (s.data.toList.getD j 0).toNat))∧Below w.heap.size w w1∧w.heap.size < w1.heap.size:=
 ⟨_,_,Lib.run_convert_string_bytes w src dst e s hs hd he,fun j hj=>Lib.bytesWorld_cell w e s j hj,
  ⟨rfl,rfl,rfl,by rw [Lib.bytesWorld_size];omega,fun k hk=>Lib.bytesWorld_at_old w e s k hk⟩,by rw [Lib.bytesWorld_size];omega⟩
theorem ofInt_u32 (a:Nat) (ha:a < 4294967296):(BitVec.ofInt 32 (a:Int)).toNat = a:=by
 rw [BitVec.ofInt_natCast,BitVec.toNat_ofNat];exact Nat.mod_eq_of_lt (by omega)
theorem bits_xor_u32 (a b:Nat) (ha:a < 4294967296) (hb:b < 4294967296):bits .xor .u32 (a:Int) (b:Int) = ((a ^^^ b:Nat):Int):=by
 have h:=Nm.xor_lt ha hb
 show IntKind.u32.wrap ((BitVec.ofInt 32 (a:Int) ^^^ BitVec.ofInt 32 (b:Int)).toNat:Int) = _
 rw [BitVec.toNat_xor,ofInt_u32 a ha,ofInt_u32 b hb,IntKind.wrap_u32];omega
theorem bits_or_u32 (a b:Nat) (ha:a < 4294967296) (hb:b < 4294967296):bits .or .u32 (a:Int) (b:Int) = ((a ||| b:Nat):Int):=by
 have h:a ||| b < 4294967296:=Nat.or_lt_two_pow (n:=32) ha hb
 show IntKind.u32.wrap ((BitVec.ofInt 32 (a:Int) ||| BitVec.ofInt 32 (b:Int)).toNat:Int) = _
 rw [BitVec.toNat_or,ofInt_u32 a ha,ofInt_u32 b hb,IntKind.wrap_u32];omega
theorem bits_and_u32 (a b:Nat) (ha:a < 4294967296) (hb:b < 4294967296):bits .and .u32 (a:Int) (b:Int) = ((a &&& b:Nat):Int):=by
 have h:a &&& b < 4294967296:=Nat.lt_of_le_of_lt Nat.and_le_left ha
 show IntKind.u32.wrap ((BitVec.ofInt 32 (a:Int) &&& BitVec.ofInt 32 (b:Int)).toNat:Int) = _
 rw [BitVec.toNat_and,ofInt_u32 a ha,ofInt_u32 b hb,IntKind.wrap_u32];omega
theorem rot16 (x:Nat) (w:World) (hx:x < 4294967296) :
  Calls Tryz.prog 232 #[.int .u32 x,.int .i64 16] w fun e w'=>e = .returned (.int .u32 (Nm.rotN x 16:Int))∧w = w':=by
 have hk:bits .and .u64 16 31 = 16:=by decide
 have HX:=Lib.hid (show bits .or .u32 ((x:Int) * 65536 % 4294967296) ((x:Int) / 65536) = (Nm.rotN x 16:Int) from
  bits_or_u32 (x * 65536 % 4294967296) (x / 65536) (Nat.mod_lt _ (by decide)) (Nat.lt_of_le_of_lt (Nat.div_le_self _ _) hx))
 go_enter Tryz.func232,Tryz.ntmps232
 go_wp2
 go_ret
 exact ⟨ret_int HX.out,rfl⟩
theorem rot8 (x:Nat) (w:World) (hx:x < 4294967296) :
  Calls Tryz.prog 232 #[.int .u32 x,.int .i64 8] w fun e w'=>e = .returned (.int .u32 (Nm.rotN x 8:Int))∧w = w':=by
 have hk:bits .and .u64 8 31 = 8:=by decide
 have HX:=Lib.hid (show bits .or .u32 ((x:Int) * 256 % 4294967296) ((x:Int) / 16777216) = (Nm.rotN x 8:Int) from
  bits_or_u32 (x * 256 % 4294967296) (x / 16777216) (Nat.mod_lt _ (by decide)) (Nat.lt_of_le_of_lt (Nat.div_le_self _ _) hx))
 go_enter Tryz.func232,Tryz.ntmps232
 go_wp2
 go_ret
 exact ⟨ret_int HX.out,rfl⟩
theorem rot4 (x:Nat) (w:World) (hx:x < 4294967296) :
  Calls Tryz.prog 232 #[.int .u32 x,.int .i64 4] w fun e w'=>e = .returned (.int .u32 (Nm.rotN x 4:Int))∧w = w':=by
 have hk:bits .and .u64 4 31 = 4:=by decide
 have HX:=Lib.hid (show bits .or .u32 ((x:Int) * 16 % 4294967296) ((x:Int) / 268435456) = (Nm.rotN x 4:Int) from
  bits_or_u32 (x * 16 % 4294967296) (x / 268435456) (Nat.mod_lt _ (by decide)) (Nat.lt_of_le_of_lt (Nat.div_le_self _ _) hx))
 go_enter Tryz.func232,Tryz.ntmps232
 go_wp2
 go_ret
 exact ⟨ret_int HX.out,rfl⟩
set_option maxHeartbeats 400000 in
theorem hash_own (s:ByteArray) (w:World) (hs:s.size≤maxLen) :
  Calls Tryz.prog 168 #[.string s] w fun e w'=>e = .returned (.int .i64 (Nm.fold8 (Nm.hashN s.data.toList)))∧Below w.heap.size w w':=by
 unfold maxLen at hs
 obtain ⟨w1,c,hcv,hcell,hbel,hsz⟩:=conv_sb (P:=Tryz.prog) w 9 26 5 s Tryz.underlying9 Tryz.underlying26 Tryz.underlying5
 have HC:=Lib.hid hcell;clear hcell
 go_enter Tryz.func168,Tryz.ntmps168
 go_wp2
 clear hcv
 go_loop [3,9] (fun h i=>∃ k:Nat,k≤s.size∧i = .int .i64 k∧h = .int .u32 (Nm.hashN (s.data.toList.take k))) (fun _ i=>s.size - (intOf i).toNat)
 case atStart=>exact ⟨0,Nat.zero_le _,rfl,rfl⟩
 case round=>
  obtain ⟨k,hk,rfl,rfl⟩:=hrel
  by_cases hlt:k < s.size
  ·have hc:=HC.out k hlt
   go_wp2
   go_round
   case rel=>exact ⟨k+1,by omega,by go_num,congrArg (Value.int .u32) (Nm.hash_step s k hlt)⟩
   case measure=>simp [intOf];omega
  ·have hl:=Nm.hashN_lt (s.data.toList.take k)
   have HE:=Lib.hid (Nm.take_all s k hlt)
   generalize hh:Nm.hashN (s.data.toList.take k) = h at *
   have HH:=Lib.hid hh;clear hh
   have h1:=Nm.mixN_lt 16 hl
   have h2:=Nm.mixN_lt 8 h1
   have h3:=Nm.mixN_lt 4 h2
   have HX1:=Lib.hid (show bits .xor .u32 (h:Int) (Nm.rotN h 16:Int) = (Nm.mixN h 16:Int) from bits_xor_u32 _ _ hl (Nm.rotN_lt hl))
   have HX2:=Lib.hid (show bits .xor .u32 (Nm.mixN h 16:Int) (Nm.rotN (Nm.mixN h 16) 8:Int) = (Nm.mixN (Nm.mixN h 16) 8:Int) from bits_xor_u32 _ _ h1 (Nm.rotN_lt h1))
   have HX3:=Lib.hid (show bits .xor .u32 (Nm.mixN (Nm.mixN h 16) 8:Int) (Nm.rotN (Nm.mixN (Nm.mixN h 16) 8) 4:Int) = (Nm.mixN (Nm.mixN (Nm.mixN h 16) 8) 4:Int) from bits_xor_u32 _ _ h2 (Nm.rotN_lt h2))
   have HF:=Lib.hid (show Nm.mixN (Nm.mixN (Nm.mixN h 16) 8) 4 % 16 = Nm.fold8 (Nm.hashN s.data.toList) by rw [← HE.out,HH.out,Nm.mix_fold h hl])
   go_wp2_with fail
   refine (rot16 h _ hl).mono ?_
   rintro e w' ⟨rfl,rfl⟩
   have hx1:=HX1.out
   go_wp2_with fail
   clear hx1
   generalize Nm.mixN h 16 = m1 at *
   refine (rot8 m1 _ h1).mono ?_
   rintro e w' ⟨rfl,rfl⟩
   have hx2:=HX2.out
   go_wp2_with fail
   clear hx2
   generalize Nm.mixN m1 8 = m2 at *
   refine (rot4 m2 _ h2).mono ?_
   rintro e w' ⟨rfl,rfl⟩
   have hx3:=HX3.out
   go_wp2
   clear hx3
   have HX4:=bits_and_u32 (Nm.mixN m2 4) 15 h3 (by decide)
   rw [Nat.and_two_pow_sub_one_eq_mod _ 4] at HX4
   have hlt16:=Nat.mod_lt (Nm.mixN m2 4) (show 0 < 2 ^ 4 by decide)
   go_ret
   refine ⟨ret_int ?_,hbel⟩
   rw [← HF.out]
   show RowKit.wrap64 (bits .and .u32 (Nm.mixN m2 4:Int) ((15:Nat):Int)) = _
   rw [HX4,IntWalk.wrap64_in _ (by omega)]
set_option maxHeartbeats 400000 in
theorem hash_ref (s:ByteArray) (w:World) (hs:s.size≤maxLen) :
  Calls Tryz.prog 23 #[.string s] w fun e w'=>e = .returned (.int .i64 (Nm.fold8 (Nm.hashN s.data.toList)))∧w = w':=by
 unfold maxLen at hs
 go_enter Tryz.func23,Tryz.ntmps23
 go_wp2
 go_loop [3,4] (fun h i=>∃ k:Nat,k≤s.size∧i = .int .i64 k∧h = .int .u32 (Nm.hashN (s.data.toList.take k))) (fun _ i=>s.size - (intOf i).toNat)
 case atStart=>exact ⟨0,Nat.zero_le _,rfl,rfl⟩
 case round=>
  obtain ⟨k,hk,rfl,rfl⟩:=hrel
  by_cases hlt:k < s.size
  ·go_wp2
   go_round
   case rel=>exact ⟨k+1,by omega,by go_num,congrArg (Value.int .u32) (Nm.hash_step s k hlt)⟩
   case measure=>simp [intOf];omega
  ·have hl:=Nm.hashN_lt (s.data.toList.take k)
   have HE:=Lib.hid (Nm.take_all s k hlt)
   generalize hh:Nm.hashN (s.data.toList.take k) = h at *
   have HH:=Lib.hid hh;clear hh
   go_wp2
   go_loop [3,5,6] (fun x n i=>∃ j:Nat,j≤8∧i = .int .i64 j∧x = .int .u32 (Nm.leftN h j:Int)∧n = .int .u32 ((Nm.foldN h j:Nat):Int)) (fun _ _ i=>8 - (intOf i).toNat)
   case atStart=>exact ⟨0,by omega,rfl,by rw [Nm.leftN_0],rfl⟩
   case round=>
    obtain ⟨j,hj,rfl,rfl,rfl⟩:=hrel
    by_cases hl8:j < 8
    ·have hq:=Nm.leftN_lt hl j
     have hf:=Nm.foldN_lt h j
     have HN:=Lib.hid (Nm.foldN_succ h j)
     have HQ:=Lib.hid (Nm.leftN_succ h j)
     generalize Nm.leftN h j = q at *
     generalize Nm.foldN h j = f at *
     go_wp2
     go_round
     case rel=>exact ⟨j+1,by omega,by go_num,congrArg (Value.int .u32) (by rw [HQ.out];rfl),congrArg (Value.int .u32) (by rw [HN.out];exact bits_xor_u32 f (q % 16) (by omega) (by omega))⟩
     case measure=>simp [intOf];omega
    ·have hf:=Nm.foldN_lt h j
     have HF:=Lib.hid (show Nm.foldN h j = Nm.fold8 (Nm.hashN s.data.toList) by rw [← HH.out,HE.out,show j = 8 by omega,Nm.foldN_8])
     generalize Nm.foldN h j = f at *
     generalize Nm.leftN h j = q at *
     go_wp2
     go_ret
     exact ⟨ret_int (by rw [← HF.out]),rfl⟩
end Go.Proofs.YtpcpaoeajcjoiaaGreatDoor
namespace Go.Proofs.YtpcpaoeajcjoiaaGreatDoor
open Go.RowKit Kit
theorem bt:ByteTy Tryz.prog 26 5:=
 ⟨Tryz.underlying26,Tryz.underlying5,by
  have h:(Tryz.prog.info? 5).map (fun i=>(i.zero,i.size,i.bytes)) = some (some (.int .u8 0),1,1):=by kernel_rfl
  obtain ⟨i,hi,h0,h1,h2⟩:=info_parts h
  exact ⟨i,hi,h0,h1,h2⟩⟩
def Nm.le4 (z:Nat):List UInt8:=[UInt8.ofNat z,UInt8.ofNat (z / 256),UInt8.ofNat (z / 65536),UInt8.ofNat (z / 16777216)]
def Nm.les (zs:List Nat):List UInt8:=zs.flatMap Nm.le4
theorem Nm.les_length (zs:List Nat):(Nm.les zs).length = 4 * zs.length:=by
 induction zs with
 | nil=>rfl
 | cons z zs ih=>simp only [Nm.les,List.flatMap_cons,List.length_append,List.length_cons] at ih ⊢;rw [ih];simp [Nm.le4];omega
abbrev hv (s:ByteArray) (fl:Int) (a b c:Nat):Value:=.agg #[.string s,.int .i64 fl,.int .u32 a,.int .u32 b,.int .u32 c]
def Nm.headB (s:List UInt8) (fl a b c:Nat):List UInt8:=Nm.les [a,b,c] ++ [UInt8.ofNat fl,UInt8.ofNat s.length] ++ s ++ List.replicate (Nm.lengthN s.length - (14+s.length)) 0
theorem refOf_any (s:ByteArray) (fl:Int) (a b c:Nat) (w:World):Calls Tryz.prog 136 #[hv s fl a b c] w fun e w'=>e = .returned (hv s fl a b c)∧Below w.heap.size w w':=by
 go_enter Tryz.func136,Tryz.ntmps136
 go_wp2
 exact bodyPost_ret (v:=hv s fl a b c) (by simp [results,Tryz.results136,go_sem]) rfl ⟨rfl,((Below.refl _ _).alloc (Nat.le_refl _) _).alloc (by simp) _⟩
def lenOf:Value→Nat | .slice _ n _=>n | _=>0
end Go.Proofs.YtpcpaoeajcjoiaaGreatDoor
namespace Go.Proofs.YtpcpaoeajcjoiaaGreatDoor
open Go.RowKit
theorem xret_bool {a b:Bool} (h:a = b):Ending.returned (.bool a) = .returned (.bool b):=by rw [h]
set_option maxHeartbeats 400000 in
theorem xright_own (s:ByteArray) (w:World) (hs:s.size≤maxLen) :
  Calls Tryz.prog 59 #[.string s] w fun e w'=>e = .returned (.bool (Nm.right s.data.toList))∧w = w':=by
 unfold maxLen at hs
 go_enter Tryz.func59,Tryz.ntmps59
 go_wp2
 go_loop [6] (fun i=>∃ k:Nat,k≤s.size∧i = .int .i64 k∧(s.data.toList.take k).all Nm.okc = true) (fun i=>s.size - (intOf i).toNat)
 case atStart=>exact ⟨0,Nat.zero_le _,rfl,by simp⟩
 case round=>
  obtain ⟨k,hk,rfl,hall⟩:=hrel
  have HA:=Lib.hid hall;clear hall
  by_cases hlt:k < s.size
  ·by_cases h1:(s[k].toNat:Int)≤32
   ·have HF:=Lib.hid (Nm.right_no s k hlt (Nm.okc_low h1))
    go_wp2
    go_ret
    exact ⟨xret_bool HF.out.symm,rfl⟩
   ·by_cases h2:126 < (s[k].toNat:Int)
    ·have HF:=Lib.hid (Nm.right_no s k hlt (Nm.okc_high h2))
     go_wp2
     go_ret
     exact ⟨xret_bool HF.out.symm,rfl⟩
    ·have HN:=Lib.hid (Nm.all_step s k hlt HA.out (Nm.okc_ok h1 h2))
     go_wp2
     go_round
     case rel=>exact ⟨k+1,by omega,by go_num,HN.out⟩
     case measure=>simp [intOf];omega
  ·have HF:=Lib.hid (Nm.right_end s k hlt HA.out)
   go_wp2
   ·have h0:s.toList = []:=by assumption
    go_ret
    exact ⟨xret_bool (by rw [HF.out,← Nm.toList_nil,h0];rfl),rfl⟩
   ·have h0:¬ s.toList = []:=by assumption
    rw [Nm.toList_nil] at h0
    go_ret
    exact ⟨xret_bool (by rw [HF.out,Nm.toList_nil,Nm.isEmpty_of h0];simp;omega),rfl⟩
set_option maxHeartbeats 400000 in
theorem xright_ref (s:ByteArray) (w:World) (hs:s.size≤maxLen) :
  Calls Tryz.prog 17 #[.string s] w fun e w'=>e = .returned (.bool (Nm.right s.data.toList))∧w = w':=by
 unfold maxLen at hs
 go_enter Tryz.func17,Tryz.ntmps17
 go_wp2
 go_loop [3] (fun i=>∃ k:Nat,k≤s.size∧i = .int .i64 k∧(s.data.toList.take k).all Nm.okc = true) (fun i=>s.size - (intOf i).toNat)
 case atStart=>exact ⟨0,Nat.zero_le _,rfl,by simp⟩
 case round=>
  obtain ⟨k,hk,rfl,hall⟩:=hrel
  have HA:=Lib.hid hall;clear hall
  by_cases hlt:k < s.size
  ·by_cases h1:(s[k].toNat:Int)≤32
   ·have HF:=Lib.hid (Nm.right_no s k hlt (Nm.okc_low h1))
    go_wp2
    go_ret
    exact ⟨xret_bool HF.out.symm,rfl⟩
   ·by_cases h2:127≤(s[k].toNat:Int)
    ·have HF:=Lib.hid (Nm.right_no s k hlt (Nm.okc_high (by omega)))
     go_wp2
     go_ret
     exact ⟨xret_bool HF.out.symm,rfl⟩
    ·have HN:=Lib.hid (Nm.all_step s k hlt HA.out (Nm.okc_ok h1 (by omega)))
     go_wp2
     go_round
     case rel=>exact ⟨k+1,by omega,by go_num,HN.out⟩
     case measure=>simp [intOf];omega
  ·have HF:=Lib.hid (Nm.right_end s k hlt HA.out)
   by_cases h0:0 < s.size
   ·have h1:=Nm.nonempty_of s h0
    go_wp2
    go_ret
    exact ⟨xret_bool (by rw [HF.out,Nm.isEmpty_of h1];simp;omega),rfl⟩
   ·have h1:=Lib.hid (Nm.empty_of s h0)
    go_wp2
    go_ret
    exact ⟨xret_bool (by rw [HF.out,h1.out];rfl),rfl⟩
end Go.Proofs.YtpcpaoeajcjoiaaGreatDoor
namespace Go.Proofs.YtpcpaoeajcjoiaaGreatDoor
open Go.RowKit Kit
def Nm.wordN (b0 b1 b2 b3:Nat):Nat:=b0+b1 * 256+b2 * 65536+b3 * 16777216
theorem Nm.or_add (a b k:Nat) (ha:a < 2 ^ k):a ||| (b * 2 ^ k) = a+b * 2 ^ k:=by
 have h:=Nat.two_pow_add_eq_or_of_lt (i:=k) ha b
 rw [Nat.or_comm,Nat.mul_comm b,← h,Nat.add_comm]
theorem Nm.word_or (b0 b1 b2 b3:Nat) (h0:b0 < 256) (h1:b1 < 256) (h2:b2 < 256) (h3:b3 < 256) :
  bits .or .u32 (bits .or .u32 (bits .or .u32 (b0:Int) ((b1:Int) * 256)) ((b2:Int) * 65536)) ((b3:Int) * 16777216) = (Nm.wordN b0 b1 b2 b3:Int):=by
 have e1:=bits_or_u32 b0 (b1 * 256) (by omega) (by omega)
 rw [show b0 ||| b1 * 256 = b0+b1 * 256 from Nm.or_add b0 b1 8 (by omega),Int.natCast_mul] at e1
 have e2:=bits_or_u32 (b0+b1 * 256) (b2 * 65536) (by omega) (by omega)
 rw [show (b0+b1 * 256) ||| b2 * 65536 = b0+b1 * 256+b2 * 65536 from Nm.or_add _ b2 16 (by omega),Int.natCast_mul] at e2
 have e3:=bits_or_u32 (b0+b1 * 256+b2 * 65536) (b3 * 16777216) (by omega) (by omega)
 rw [show (b0+b1 * 256+b2 * 65536) ||| b3 * 16777216 = b0+b1 * 256+b2 * 65536+b3 * 16777216 from Nm.or_add _ b3 24 (by omega),Int.natCast_mul] at e3
 have e1':bits .or .u32 (b0:Int) ((b1:Int) * 256) = ((b0+b1 * 256:Nat):Int):=e1
 have e2':bits .or .u32 ((b0+b1 * 256:Nat):Int) ((b2:Int) * 65536) = ((b0+b1 * 256+b2 * 65536:Nat):Int):=e2
 rw [e1',e2']
 exact e3
theorem word_own (g off len cap:Nat) (b0 b1 b2 b3:UInt8) (w:World) (hl:4≤len) (c0:w.cell? ⟨g,off,none⟩ = some (.int .u8 b0.toNat)) (c1:w.cell? ⟨g,off+1,none⟩ = some (.int .u8 b1.toNat))
  (c2:w.cell? ⟨g,off+2,none⟩ = some (.int .u8 b2.toNat)) (c3:w.cell? ⟨g,off+3,none⟩ = some (.int .u8 b3.toNat)) :
  Calls Tryz.prog 60 #[.slice (some ⟨g,off,none⟩) len cap] w fun e w'=>e = .returned (.int .u32 (Nm.wordN b0.toNat b1.toNat b2.toNat b3.toNat:Int))∧w' = w.drew:=by
 have h0:b0.toNat < 256:=b0.toNat_lt
 have h1:b1.toNat < 256:=b1.toNat_lt
 have h2:b2.toNat < 256:=b2.toNat_lt
 have h3:b3.toNat < 256:=b3.toNat_lt
 have HV:=Lib.hid (Nm.word_or b0.toNat b1.toNat b2.toNat b3.toNat h0 h1 h2 h3)
 have n0:0 < len:=by omega
 have n1:1 < len:=by omega
 have n2:2 < len:=by omega
 have n3:3 < len:=by omega
 have l0:(0:Int) < len:=by omega
 have l1:(1:Int) < len:=by omega
 have l2:(2:Int) < len:=by omega
 have l3:(3:Int) < len:=by omega
 generalize b0.toNat = x0 at *
 generalize b1.toNat = x1 at *
 generalize b2.toNat = x2 at *
 generalize b3.toNat = x3 at *
 go_enter Tryz.func60,Tryz.ntmps60
 go_wp2
 refine wp_region_still_lit (by kernel_rfl) (by kernel_rfl) ?_
 repeat ((with_reducible refine wpStill_step (fun K hK=>?_));go_simp;(try go_bits);(with_reducible refine hK _ ?_);clear hK K)
 refine wpStill_nil ?_
 go_wp2
 go_ret
 exact ⟨ret_int HV.out,rfl⟩
def Nm.nl (l:List UInt8):Nat:=(l.getD 13 0).toNat
def Nm.name (l:List UInt8):List UInt8:=(l.drop 14).take (Nm.nl l)
def Nm.flg (l:List UInt8):Nat:=(l.getD 12 0).toNat
def Nm.wat (l:List UInt8) (k:Nat):Nat:=Nm.wordN (l.getD k 0).toNat (l.getD (k+1) 0).toNat (l.getD (k+2) 0).toNat (l.getD (k+3) 0).toNat
def Nm.pad (l:List UInt8):List UInt8:=(l.drop (14+Nm.nl l)).take (Nm.lengthN (Nm.nl l) - (14+Nm.nl l))
def Nm.goodB (l:List UInt8):Bool:=decide (14≤l.length) && (decide (Nm.nl l≤31) && (decide (14+Nm.nl l≤l.length) && (Nm.right (Nm.name l) && (decide (Nm.flg l≤15) && (decide (Nm.lengthN (Nm.nl l)≤l.length) && (Nm.pad l).all (· == 0))))))
theorem Nm.pad_all (l:List UInt8) (h:Nm.lengthN (Nm.nl l)≤l.length):(Nm.pad l).all (· == 0) = true ↔ ∀ j,j < Nm.lengthN (Nm.nl l) - (14+Nm.nl l)→(l.getD (14+Nm.nl l+j) 0).toNat = 0:=by
 rw [List.all_eq_true]
 constructor
 ·intro ha j hj
  have hm:l.getD (14+Nm.nl l+j) 0 ∈ Nm.pad l:=by
   rw [List.mem_iff_getElem?]
   refine ⟨j,?_⟩
   rw [Nm.pad,List.getElem?_take,if_pos hj,List.getElem?_drop,List.getD,List.getElem?_eq_getElem (by omega)]
   rfl
  have:=ha _ hm
  simp only [beq_iff_eq] at this
  rw [this];rfl
 ·intro ha c hc
  rw [List.mem_iff_getElem?] at hc
  obtain ⟨j,hj⟩:=hc
  rw [Nm.pad,List.getElem?_take] at hj
  split at hj
  ·rename_i hlt
   rw [List.getElem?_drop] at hj
   have:=ha j hlt
   rw [List.getD,hj] at this
   rw [beq_iff_eq,← UInt8.toNat_inj]
   exact this
  ·cases hj
theorem Nm.goodB_true {l:List UInt8} (h:Nm.goodB l = true):Nm.right (Nm.name l) = true∧Nm.flg l≤15∧Nm.lengthN (Nm.nl l)≤l.length∧∀ j,j < Nm.lengthN (Nm.nl l) - (14+Nm.nl l)→(l.getD (14+Nm.nl l+j) 0).toNat = 0:=by
 simp only [Nm.goodB,Bool.and_eq_true,decide_eq_true_eq] at h
 obtain ⟨h1,h2,h3,h4,h5,h6,h7⟩:=h
 exact ⟨h4,h5,h6,(Nm.pad_all l h6).1 h7⟩
theorem Nm.goodB_false {l:List UInt8} (h:Nm.goodB l = false):l.length < 14 ∨ 31 < Nm.nl l ∨ l.length < 14+Nm.nl l ∨ Nm.right (Nm.name l) = false ∨ 15 < Nm.flg l ∨ l.length < Nm.lengthN (Nm.nl l) ∨ ∃ j,j < Nm.lengthN (Nm.nl l) - (14+Nm.nl l)∧(l.getD (14+Nm.nl l+j) 0).toNat ≠ 0:=by
 by_cases h1:l.length < 14
 ·exact .inl h1
 by_cases h2:31 < Nm.nl l
 ·exact .inr (.inl h2)
 by_cases h3:l.length < 14+Nm.nl l
 ·exact .inr (.inr (.inl h3))
 by_cases h4:Nm.right (Nm.name l) = false
 ·exact .inr (.inr (.inr (.inl h4)))
 by_cases h5:15 < Nm.flg l
 ·exact .inr (.inr (.inr (.inr (.inl h5))))
 by_cases h6:l.length < Nm.lengthN (Nm.nl l)
 ·exact .inr (.inr (.inr (.inr (.inr (.inl h6)))))
 refine .inr (.inr (.inr (.inr (.inr (.inr ?_)))))
 have h4':Nm.right (Nm.name l) = true:=by simpa using h4
 have e1:decide (14≤l.length) = true:=by simp;omega
 have e2:decide (Nm.nl l≤31) = true:=by simp;omega
 have e3:decide (14+Nm.nl l≤l.length) = true:=by simp;omega
 have e5:decide (Nm.flg l≤15) = true:=by simp;omega
 have e6:decide (Nm.lengthN (Nm.nl l)≤l.length) = true:=by simp;omega
 rw [Nm.goodB,e1,e2,e3,h4',e5,e6] at h
 simp only [Bool.true_and] at h
 apply Classical.byContradiction
 intro hn
 have:(Nm.pad l).all (· == 0) = true:=(Nm.pad_all l (by omega)).2 fun j hj=>Classical.byContradiction fun hne=>hn ⟨j,hj,hne⟩
 rw [this] at h
 cases h
abbrev hv0:Value:=.agg #[.string ⟨#[]⟩,.int .i64 0,.int .u32 0,.int .u32 0,.int .u32 0]
theorem rd_len {w:World} {v:Value} {l:List UInt8} (h:RdB w v l):∃ a cap,v = .slice a l.length cap:=by
 rcases h with ⟨a,c,rfl,rfl⟩ | ⟨g,off,cap,rfl,_⟩
 ·exact ⟨a,c,rfl⟩
 ·exact ⟨_,cap,rfl⟩
theorem read_short (v:Value) (l:List UInt8) (w:World) (hv:RdB w v l) (h:l.length < 14) :
  Calls Tryz.prog 24 #[v] w fun e w'=>e = .returned (.tuple #[hv0,.int .i64 0,.int .i64 45])∧Below w.heap.size w w':=by
 obtain ⟨a,cap,rfl⟩:=rd_len hv
 generalize l.length = n at *
 go_enter Tryz.func24,Tryz.ntmps24
 go_wp2
 exact bodyPost_ret (v:=.tuple #[hv0,.int .i64 0,.int .i64 45]) (by simp [results,Tryz.results24,go_sem]) rfl ⟨rfl,(Below.refl _ _).alloc (Nat.le_refl _) _⟩
theorem read_long (g off cap:Nat) (l:List UInt8) (w:World) (hc:∀ j,j < l.length→w.cell? ⟨g,off+j,none⟩ = some (.int .u8 (l.getD j 0).toNat)) (hg:g < w.heap.size) (h14:14≤l.length) (h2000:l.length≤2000) (h:31 < Nm.nl l ∨ l.length < 14+Nm.nl l) :
  Calls Tryz.prog 24 #[.slice (some ⟨g,off,none⟩) l.length cap] w fun e w'=>e = .returned (.tuple #[hv0,.int .i64 0,.int .i64 45])∧Below w.heap.size w w':=by
 have c13:(w.alloc (.cells #[.string ⟨#[]⟩,.int .i64 0,.int .u32 0,.int .u32 0,.int .u32 0] 55)).cell? ⟨g,off+13,none⟩ = some (.int .u8 (Nm.nl l)):=by
  rw [World.cell?_alloc_past _ _ _ (by simpa using hg)];exact hc 13 (by omega)
 clear hc
 have h13:Nm.nl l < 256:=(l.getD 13 0).toNat_lt
 have n13:13 < l.length:=by omega
 generalize Nm.nl l = k at *
 generalize l.length = n at *
 by_cases h1:31 < k
 ·clear h
  go_enter Tryz.func24,Tryz.ntmps24
  go_wp2
  exact bodyPost_ret (v:=.tuple #[hv0,.int .i64 0,.int .i64 45]) (by simp [results,Tryz.results24,go_sem]) rfl ⟨rfl,(Below.refl _ _).alloc (Nat.le_refl _) _⟩
 ·have h2:n < 14+k:=by omega
  clear h
  go_enter Tryz.func24,Tryz.ntmps24
  go_wp2
  exact bodyPost_ret (v:=.tuple #[hv0,.int .i64 0,.int .i64 45]) (by simp [results,Tryz.results24,go_sem]) rfl ⟨rfl,(Below.refl _ _).alloc (Nat.le_refl _) _⟩
abbrev w0 (w:World):World:=w.alloc (.cells #[.string ⟨#[]⟩,.int .i64 0,.int .u32 0,.int .u32 0,.int .u32 0] 55)
def Nm.readV (l:List UInt8):Value:=if Nm.goodB l then .tuple #[hv ⟨(Nm.name l).toArray⟩ (Nm.flg l) (Nm.wat l 0) (Nm.wat l 4) (Nm.wat l 8),.int .i64 (Nm.lengthN (Nm.nl l):Nat),.int .i64 0] else .tuple #[hv0,.int .i64 0,.int .i64 45]
theorem Nm.readV_bad {l:List UInt8} (h:Nm.goodB l = false):Nm.readV l = .tuple #[hv0,.int .i64 0,.int .i64 45]:=by rw [Nm.readV,if_neg (by simp [h])]
theorem Nm.readV_good {l:List UInt8} (h:Nm.goodB l = true):Nm.readV l = .tuple #[hv ⟨(Nm.name l).toArray⟩ (Nm.flg l) (Nm.wat l 0) (Nm.wat l 4) (Nm.wat l 8),.int .i64 (Nm.lengthN (Nm.nl l):Nat),.int .i64 0]:=by rw [Nm.readV,if_pos h]
structure RF (w:World) (g off cap n k f N:Nat) (nm:List UInt8) (R:Bool) (pv:Nat→Nat) (x0 x4 x8:Nat) (v2:Value) (a3:Option Addr) (m c3:Nat):Prop where
 c13:∀ W',Below w.heap.size w W'→W'.cell? ⟨g,off+13,none⟩ = some (.int .u8 k)
 c12:∀ W',Below w.heap.size w W'→W'.cell? ⟨g,off+12,none⟩ = some (.int .u8 f)
 cv:∀ W',Below w.heap.size w W'→(convert 26 9 v2).run Tryz.prog W' = .ok (.string ⟨nm.toArray⟩) W'
 s2:∀ W',(Instr.slice 26 (.slice (some ⟨g,off,none⟩) n cap) (some (.int .i64 14)) (some (.int .i64 (14+(k:Int)))) none).run Tryz.prog W' = .ok v2 W'
 s3:N≤n→∀ W',(Instr.slice 26 (.slice (some ⟨g,off,none⟩) n cap) (some (.int .i64 (14+(k:Int)))) (some (.int .i64 (N:Int))) none).run Tryz.prog W' = .ok (.slice a3 m c3) W'
 s4:∀ W',(Instr.slice 26 (.slice (some ⟨g,off,none⟩) n cap) (some (.int .i64 4)) none none).run Tryz.prog W' = .ok (.slice (some ⟨g,off+4,none⟩) (n - 4) (cap - 4)) W'
 s8:∀ W',(Instr.slice 26 (.slice (some ⟨g,off,none⟩) n cap) (some (.int .i64 8)) none none).run Tryz.prog W' = .ok (.slice (some ⟨g,off+8,none⟩) (n - 8) (cap - 8)) W'
 hm:N≤n→m+(14+k) = N
 ha:N≤n→0 < m→a3 = some ⟨g,off+(14+k),none⟩
 pad:N≤n→∀ j,j < m→∀ W',Below w.heap.size w W'→W'.cell? ⟨g,off+(14+k)+j,none⟩ = some (.int .u8 (pv j))
 len:∀ W',Calls Tryz.prog 58 #[.string ⟨nm.toArray⟩] W' fun e w'=>e = .returned (.int .i64 N)∧W' = w'
 right:∀ W',Calls Tryz.prog 59 #[.string ⟨nm.toArray⟩] W' fun e w'=>e = .returned (.bool R)∧W' = w'
 w0:∀ W',Below w.heap.size w W'→Calls Tryz.prog 60 #[.slice (some ⟨g,off,none⟩) n cap] W' fun e w'=>e = .returned (.int .u32 x0)∧w' = W'.drew
 w4:∀ W',Below w.heap.size w W'→Calls Tryz.prog 60 #[.slice (some ⟨g,off+4,none⟩) (n - 4) (cap - 4)] W' fun e w'=>e = .returned (.int .u32 x4)∧w' = W'.drew
 w8:∀ W',Below w.heap.size w W'→Calls Tryz.prog 60 #[.slice (some ⟨g,off+8,none⟩) (n - 8) (cap - 8)] W' fun e w'=>e = .returned (.int .u32 x8)∧w' = W'.drew
def RPost (w:World) (n f N:Nat) (nm:List UInt8) (R:Bool) (pv:Nat→Nat) (x0 x4 x8 m:Nat) (e:Ending) (w':World):Prop:=
 ((R = false ∨ 15 < f ∨ n < N ∨ ∃ j,j < m∧pv j ≠ 0)→e = .returned (.tuple #[hv0,.int .i64 0,.int .i64 45])) ∧
   ((R = true∧f≤15∧N≤n∧∀ j,j < m→pv j = 0)→e = .returned (.tuple #[hv ⟨nm.toArray⟩ f x0 x4 x8,.int .i64 N,.int .i64 0]))∧Below w.heap.size w w'
theorem RPost.bad {w:World} {n f N:Nat} {nm:List UInt8} {R:Bool} {pv:Nat→Nat} {x0 x4 x8 m:Nat} {w':World} (h:R = false ∨ 15 < f ∨ n < N ∨ ∃ j,j < m∧pv j ≠ 0) (hb:Below w.heap.size w w') :
  RPost w n f N nm R pv x0 x4 x8 m (.returned (.tuple #[hv0,.int .i64 0,.int .i64 45])) w':=⟨fun _=>rfl,fun h2=>by
   rcases h with h | h | h | ⟨j,h,h'⟩
   ·rw [h] at h2;cases h2.1
   ·omega
   ·omega
   ·exact absurd (h2.2.2.2 j h) h',hb⟩
theorem RPost.good {w:World} {n f N:Nat} {nm:List UInt8} {R:Bool} {pv:Nat→Nat} {x0 x4 x8 m:Nat} {w':World} (h:R = true∧f≤15∧N≤n∧∀ j,j < m→pv j = 0) (hb:Below w.heap.size w w') :
  RPost w n f N nm R pv x0 x4 x8 m (.returned (.tuple #[hv ⟨nm.toArray⟩ f x0 x4 x8,.int .i64 N,.int .i64 0])) w':=⟨fun h2=>by
   rcases h2 with h2 | h2 | h2 | ⟨j,h2,h'⟩
   ·rw [h2] at h;cases h.1
   ·omega
   ·omega
   ·exact absurd (h.2.2.2 j h2) h',fun _=>rfl,hb⟩
set_option maxHeartbeats 2000000 in
theorem read_core (w:World) (g off cap n k f N:Nat) (nm:List UInt8) (R:Bool) (pv:Nat→Nat) (x0 x4 x8:Nat) (v2:Value) (a3:Option Addr) (m c3:Nat) (F:RF w g off cap n k f N nm R pv x0 x4 x8 v2 a3 m c3)
  (hg:g < w.heap.size) (hcap:n≤cap) (h14:14≤n) (h2000:n≤2000) (h31:k≤31) (hl2:14+k≤n) (hf:f < 256) (hN:N≤60) (hkN:14+k≤N) :
  Calls Tryz.prog 24 #[.slice (some ⟨g,off,none⟩) n cap] w (RPost w n f N nm R pv x0 x4 x8 m):=by
 have HB0:=Lib.hid (show Below w.heap.size w (w0 w) from (Below.refl _ _).alloc (Nat.le_refl _) _)
 have c13:(w0 w).cell? ⟨g,off+13,none⟩ = some (.int .u8 k):=F.c13 _ HB0.out
 have hsl:=F.s2
 have n13:13 < n:=by omega
 have n12:12 < n:=by omega
 have s0:(0:Int)≤k:=by omega
 have s1:(14:Int)+k≤cap:=by omega
 have s2:(14:Int)≤14+k:=by omega
 have s3:14+k≤cap:=by omega
 have s4:(0:Int)≤14+k:=by omega
 have s5:(12:Int) < n:=by omega
 have s6:14≤14+k:=by omega
 have s7:IntKind.i64.wrap (14+(k:Int)) = 14+k:=IntWalk.i64_in _ (by omega)
 have HS:=Lib.hid (show ∀ W',Below (w.heap.size+1) (w0 w) W'→W'.cell? ⟨g,off+12,none⟩ = some (.int .u8 f)∧(convert 26 9 v2).run Tryz.prog W' = .ok (.string ⟨nm.toArray⟩) W' from fun W' hb=>
  ⟨F.c12 W' (HB0.out.trans (hb.mono (by omega))),F.cv W' (HB0.out.trans (hb.mono (by omega)))⟩)
 have HF:=Lib.hid F;clear F
 go_enter Tryz.func24,Tryz.ntmps24
 go_wp2_with fail
 go_region_held3 (fun w'=>w'.cell? ⟨g,off+12,none⟩ = some (.int .u8 f)∧(convert 26 9 v2).run Tryz.prog w' = .ok (.string ⟨nm.toArray⟩) w')
  (first | exact HS.out _ (by repeat (first | exact Below.refl _ _ | apply Below.drew | refine Below.alloc ?_ (by simp) _ | refine Below.setCell ?_ (by simp) _)) | (go_keep;done))
  (first | fail)
 clear hsl s7 c13 HS
 have HL:=HF.out.len
 have HR:=HF.out.right
 go_wp2_with fail
 refine (HL _).mono ?_
 rintro e w' ⟨rfl,rfl⟩
 go_wp2_with fail
 refine (HR _).mono ?_
 rintro e w' ⟨rfl,rfl⟩
 clear HL HR
 cases R
 ·go_wp2
  refine bodyPost_ret (v:=.tuple #[hv0,.int .i64 0,.int .i64 45]) (by simp [results,Tryz.results24,go_sem]) rfl (RPost.bad (.inl rfl) ?_)
  repeat (first | exact Below.refl _ _ | apply Below.drew | refine Below.alloc ?_ (by simp) _ | refine Below.setCell ?_ (by simp) _)
 by_cases h15:15 < f
 ·have h15':(15:Int) < f:=by omega
  go_wp2
  refine bodyPost_ret (v:=.tuple #[hv0,.int .i64 0,.int .i64 45]) (by simp [results,Tryz.results24,go_sem]) rfl (RPost.bad (.inr (.inl h15)) ?_)
  repeat (first | exact Below.refl _ _ | apply Below.drew | refine Below.alloc ?_ (by simp) _ | refine Below.setCell ?_ (by simp) _)
 by_cases hnN:n < N
 ·have h15':(f:Int)≤15:=by omega
  go_wp2
  refine bodyPost_ret (v:=.tuple #[hv0,.int .i64 0,.int .i64 45]) (by simp [results,Tryz.results24,go_sem]) rfl (RPost.bad (.inr (.inr (.inl hnN))) ?_)
  repeat (first | exact Below.refl _ _ | apply Below.drew | refine Below.alloc ?_ (by simp) _ | refine Below.setCell ?_ (by simp) _)
 have h15':(f:Int)≤15:=by omega
 have hNn:N≤n:=by omega
 have hsl3:=HF.out.s3 hNn
 have hm:=HF.out.hm hNn
 have HM:=Lib.hid hm
 have hm50:m≤60:=by omega
 clear hm
 go_wp2_with fail
 clear hsl3
 go_loop [63] (fun i=>∃ j:Nat,j≤m∧i = .int .i64 j∧∀ i,i < j→pv i = 0) (fun i=>m - (intOf i).toNat)
 case atStart=>exact ⟨0,Nat.zero_le _,rfl,fun i hi=>by omega⟩
 case round=>
  obtain ⟨j,hj,rfl,hall⟩:=hrel
  have HA:=Lib.hid hall;clear hall
  by_cases hlt:j < m
  ·have ha:=HF.out.ha hNn (by omega)
   have HC:=Lib.hid (HF.out.pad hNn j hlt)
   subst ha
   have hcell:=HC.out ((w.alloc (.cells #[.string ⟨#[]⟩,.int .i64 0,.int .u32 0,.int .u32 0,.int .u32 0] 55)).alloc (.cells #[.string ⟨nm.toArray⟩,.int .i64 f,.int .u32 0,.int .u32 0,.int .u32 0] 55)).drew (by repeat (first | exact Below.refl _ _ | apply Below.drew | refine Below.alloc ?_ (by simp) _ | refine Below.setCell ?_ (by simp) _))
   by_cases hz:pv j = 0
   ·have hz':((pv j:Int) != 0) = false:=by simp [hz]
    have HN:=Lib.hid (show ∀ i,i < j+1→pv i = 0 from fun i hi=>by
     by_cases e:i = j
     ·rw [e];exact hz
     ·exact HA.out i (by omega))
    clear hz
    go_wp2
    go_round
    case rel=>exact ⟨j+1,by omega,by go_num,HN.out⟩
    case measure=>simp [intOf];omega
   ·have hz':((pv j:Int) != 0) = true:=by simp [hz]
    go_wp2
    refine bodyPost_ret (v:=.tuple #[hv0,.int .i64 0,.int .i64 45]) (by simp [results,Tryz.results24,go_sem]) rfl (RPost.bad (.inr (.inr (.inr ⟨j,hlt,hz⟩))) ?_)
    repeat (first | exact Below.refl _ _ | apply Below.drew | refine Below.alloc ?_ (by simp) _ | refine Below.setCell ?_ (by simp) _)
  ·have HG:=Lib.hid (show f≤15∧N≤n∧∀ j,j < m→pv j = 0 from ⟨by omega,hNn,fun i hi=>HA.out i (by omega)⟩)
   have h4:=HF.out.s4
   have h8:=HF.out.s8
   go_wp2_with fail
   go_region_held3 (fun w'=>True) (trivial)
    (first
     | (go_at_call 60;first | ((with_reducible refine (HF.out.w0 _ ?_).mono ?_);(repeat (first | exact Below.refl _ _ | apply Below.drew | refine Below.alloc ?_ (by simp) _ | refine Below.setCell ?_ (by simp) _));rintro e w' ⟨rfl,rfl⟩) | ((with_reducible refine (HF.out.w4 _ ?_).mono ?_);(repeat (first | exact Below.refl _ _ | apply Below.drew | refine Below.alloc ?_ (by simp) _ | refine Below.setCell ?_ (by simp) _));rintro e w' ⟨rfl,rfl⟩) | ((with_reducible refine (HF.out.w8 _ ?_).mono ?_);(repeat (first | exact Below.refl _ _ | apply Below.drew | refine Below.alloc ?_ (by simp) _ | refine Below.setCell ?_ (by simp) _));rintro e w' ⟨rfl,rfl⟩)))
   clear h4 h8
   go_wp2
   refine bodyPost_ret (v:=.tuple #[hv ⟨nm.toArray⟩ f x0 x4 x8,.int .i64 N,.int .i64 0]) (by simp [results,Tryz.results24,go_sem]) rfl (RPost.good ⟨rfl,HG.out⟩ ?_)
   repeat (first | exact Below.refl _ _ | apply Below.drew | refine Below.alloc ?_ (by simp) _ | refine Below.setCell ?_ (by simp) _)
theorem slice_run (g off len cap lo hi:Nat) (h1:lo≤hi) (h2:hi≤cap) (l h:Int) (hl:l = lo) (hh:h = hi) (W:World) :
  (Instr.slice 26 (.slice (some ⟨g,off,none⟩) len cap) (some (.int .i64 l)) (some (.int .i64 h)) none).run Tryz.prog W = .ok (sliced (some ⟨g,off,none⟩) lo hi cap 1) W:=by
 obtain ⟨i,hi',hz,hs1,hb1⟩:=bt.info
 have helem:Tryz.prog.elem 26 = 5:=by simp [Program.elem,bt.slice]
 have ht:Tryz.prog.underlying 26 = some (.slice (Tryz.prog.elem 26)):=by rw [helem];exact bt.slice
 have hsz:(sizeOf (Tryz.prog.elem 26)).run Tryz.prog W = .ok 1 W:=by rw [helem];simp [sizeOf,typeInfo,hi',hs1]
 subst hl hh
 rw [run_slice_lh (w:=W) 26 _ _ _ ht .i64 .i64 lo hi (by omega) (by omega) (by omega),hsz]
 simp
theorem slice_run_lo (g off len cap lo:Nat) (h1:lo≤len) (h2:lo < cap) (l:Int) (hl:l = lo) (W:World) :
  (Instr.slice 26 (.slice (some ⟨g,off,none⟩) len cap) (some (.int .i64 l)) none none).run Tryz.prog W = .ok (.slice (some ⟨g,off+lo,none⟩) (len - lo) (cap - lo)) W:=by
 obtain ⟨i,hi',hz,hs1,hb1⟩:=bt.info
 have helem:Tryz.prog.elem 26 = 5:=by simp [Program.elem,bt.slice]
 have ht:Tryz.prog.underlying 26 = some (.slice (Tryz.prog.elem 26)):=by rw [helem];exact bt.slice
 have hsz:(sizeOf (Tryz.prog.elem 26)).run Tryz.prog W = .ok 1 W:=by rw [helem];simp [sizeOf,typeInfo,hi',hs1]
 subst hl
 rw [run_slice_l (w:=W) 26 _ _ _ ht .i64 lo (by omega) (by omega),hsz]
 simp only [Result.andThen_ok,sliced,Int.toNat_natCast,Nat.mul_one]
 rw [if_neg (by omega)]
 simp [addr_add]
theorem read_own (g off cap:Nat) (l:List UInt8) (w:World) (hc:∀ j,j < l.length→w.cell? ⟨g,off+j,none⟩ = some (.int .u8 (l.getD j 0).toNat)) (hg:g < w.heap.size) (hcap:l.length≤cap) (hcm:cap≤maxLen) (h2000:l.length≤2000) :
  Calls Tryz.prog 24 #[.slice (some ⟨g,off,none⟩) l.length cap] w fun e w'=>e = .returned (Nm.readV l)∧Below w.heap.size w w':=by
 by_cases h14:14≤l.length
 ·by_cases hlong:31 < Nm.nl l ∨ l.length < 14+Nm.nl l
  ·have e:Nm.goodB l = false:=by
    rcases hlong with h | h
    ·have:decide (Nm.nl l≤31) = false:=by simp;omega
     simp [Nm.goodB,this]
    ·have:decide (14+Nm.nl l≤l.length) = false:=by simp;omega
     simp [Nm.goodB,this]
   rw [Nm.readV_bad e]
   exact read_long g off cap l w hc hg h14 h2000 hlong
  ·have h31:Nm.nl l≤31:=by omega
   have hl2:14+Nm.nl l≤l.length:=by omega
   have hln:14+Nm.nl l≤Nm.lengthN (Nm.nl l)∧Nm.lengthN (Nm.nl l)≤14+Nm.nl l+3:=by unfold Nm.lengthN;rw [if_neg (by omega)];omega
   have hname:(Nm.name l).length = Nm.nl l:=by simp [Nm.name];omega
   have hsz:(⟨(Nm.name l).toArray⟩:ByteArray).size = Nm.nl l:=by rw [← hname];rfl
   have hmax:(⟨(Nm.name l).toArray⟩:ByteArray).size≤maxLen:=by rw [hsz];unfold maxLen;omega
   obtain ⟨v2,hsl,hrd2⟩:=slice_rd bt g off l.length cap 14 (14+Nm.nl l) (by omega) (by omega)
   have hcW:∀ W',Below w.heap.size w W'→∀ j,j < l.length→W'.cell? ⟨g,off+j,none⟩ = some (.int .u8 (l.getD j 0).toNat):=fun W' hb j hj=>(hb.cell (p:=⟨g,off+j,none⟩) hg).trans (hc j hj)
   have key:=read_core w g off cap l.length (Nm.nl l) (Nm.flg l) (Nm.lengthN (Nm.nl l)) (Nm.name l) (Nm.right (Nm.name l)) (fun j=>(l.getD (14+Nm.nl l+j) 0).toNat) (Nm.wat l 0) (Nm.wat l 4) (Nm.wat l 8) v2
    (if cap = 14+Nm.nl l then some ⟨g,off,none⟩ else some ⟨g,off+(14+Nm.nl l),none⟩) (Nm.lengthN (Nm.nl l) - (14+Nm.nl l)) (cap - (14+Nm.nl l))
    {c13:=fun W' hb=>hcW W' hb 13 (by omega)
     c12:=fun W' hb=>hcW W' hb 12 (by omega)
     cv:=fun W' hb=>by
      have:=run_string_of bt Tryz.underlying9 (hrd2 W' l rfl hl2 hcap hcm (Nat.lt_of_lt_of_le hg hb.size) (hcW W' hb))
      rw [show 14+Nm.nl l - 14 = Nm.nl l by omega] at this
      exact this
     s2:=fun W'=>hsl 14 (14+(Nm.nl l:Int)) rfl (by omega) W'
     s3:=fun h W'=>by
      rw [slice_run g off l.length cap (14+Nm.nl l) (Nm.lengthN (Nm.nl l)) hln.1 (by omega) _ _ (by simp) rfl W']
      unfold sliced
      split
      ·rfl
      ·simp [addr_add]
     s4:=fun W'=>slice_run_lo g off l.length cap 4 (by omega) (by omega) 4 rfl W'
     s8:=fun W'=>slice_run_lo g off l.length cap 8 (by omega) (by omega) 8 rfl W'
     hm:=fun h=>by omega
     ha:=fun h h0=>by rw [if_neg (by omega)]
     pad:=fun h j hj W' hb=>by rw [Nat.add_assoc];exact hcW W' hb (14+Nm.nl l+j) (by omega)
     len:=fun W'=>by have:=len_own ⟨(Nm.name l).toArray⟩ W' hmax;rw [hsz] at this;exact this
     right:=fun W'=>xright_own ⟨(Nm.name l).toArray⟩ W' hmax
     w0:=fun W' hb=>word_own g off l.length cap _ _ _ _ W' (by omega) (hcW W' hb 0 (by omega)) (hcW W' hb 1 (by omega)) (hcW W' hb 2 (by omega)) (hcW W' hb 3 (by omega))
     w4:=fun W' hb=>word_own g (off+4) (l.length - 4) (cap - 4) _ _ _ _ W' (by omega) (hcW W' hb 4 (by omega)) (hcW W' hb 5 (by omega)) (hcW W' hb 6 (by omega)) (hcW W' hb 7 (by omega))
     w8:=fun W' hb=>word_own g (off+8) (l.length - 8) (cap - 8) _ _ _ _ W' (by omega) (hcW W' hb 8 (by omega)) (hcW W' hb 9 (by omega)) (hcW W' hb 10 (by omega)) (hcW W' hb 11 (by omega)) }
    hg hcap h14 h2000 h31 hl2 (l.getD 12 0).toNat_lt (by omega) hln.1
   refine key.mono ?_
   rintro e w' ⟨hbad,hgood,hb⟩
   cases hgb:Nm.goodB l
   ·rw [Nm.readV_bad hgb]
    refine ⟨hbad ?_,hb⟩
    rcases Nm.goodB_false hgb with h | h | h | h | h | h | h
    ·omega
    ·omega
    ·omega
    ·exact .inl h
    ·exact .inr (.inl h)
    ·exact .inr (.inr (.inl h))
    ·exact .inr (.inr (.inr h))
   ·rw [Nm.readV_good hgb]
    exact ⟨hgood (Nm.goodB_true hgb),hb⟩
 ·have e:Nm.goodB l = false:=by
   have:decide (14≤l.length) = false:=by simp;omega
   simp [Nm.goodB,this]
  rw [Nm.readV_bad e]
  exact read_short _ l w (.inr ⟨g,off,cap,rfl,hg,hcap,hcm,hc⟩) (by omega)
theorem Nm.headB_length {s:List UInt8} {fl a b c:Nat} (h:s.length≤31):(Nm.headB s fl a b c).length = Nm.lengthN s.length:=by
 simp only [Nm.headB,List.length_append,Nm.les_length,List.length_cons,List.length_nil,List.length_replicate]
 unfold Nm.lengthN;rw [if_neg (by omega)];omega
theorem Nm.word_le4 {a:Nat} (ha:a < 4294967296):Nm.wordN (UInt8.ofNat a).toNat (UInt8.ofNat (a / 256)).toNat (UInt8.ofNat (a / 65536)).toNat (UInt8.ofNat (a / 16777216)).toNat = a:=by
 simp only [Nm.wordN,UInt8.toNat_ofNat'];omega
theorem Nm.head_open (l:List UInt8) (fl a b c:Nat) (more:List UInt8) :
  Nm.headB l fl a b c ++ more = Nm.les [a,b,c] ++ [UInt8.ofNat fl,UInt8.ofNat l.length] ++ (l ++ (List.replicate (Nm.lengthN l.length - (14+l.length)) 0 ++ more)):=by
 simp only [Nm.headB,List.append_assoc]
theorem Nm.back1 (l:List UInt8) (fl a b c:Nat) (more:List UInt8) (hr:Nm.right l = true) (hl:l.length≤31) (hf:fl≤15) (ha:a < 4294967296) (hb:b < 4294967296) (hc:c < 4294967296) :
  Nm.readV (Nm.headB l fl a b c ++ more) = .tuple #[hv ⟨l.toArray⟩ fl a b c,.int .i64 (Nm.lengthN l.length:Nat),.int .i64 0]:=by
 have hln:14+l.length≤Nm.lengthN l.length∧Nm.lengthN l.length≤14+l.length+3:=by unfold Nm.lengthN;rw [if_neg (by omega)];omega
 have hlen:(Nm.headB l fl a b c ++ more).length = Nm.lengthN l.length+more.length:=by rw [List.length_append,Nm.headB_length hl]
 rw [Nm.head_open] at hlen ⊢
 generalize hT:l ++ (List.replicate (Nm.lengthN l.length - (14+l.length)) 0 ++ more) = T at hlen ⊢
 have e13:Nm.nl (Nm.les [a,b,c] ++ [UInt8.ofNat fl,UInt8.ofNat l.length] ++ T) = l.length:=by
  show (UInt8.ofNat l.length).toNat = _
  rw [UInt8.toNat_ofNat'];omega
 have e12:Nm.flg (Nm.les [a,b,c] ++ [UInt8.ofNat fl,UInt8.ofNat l.length] ++ T) = fl:=by
  show (UInt8.ofNat fl).toNat = _
  rw [UInt8.toNat_ofNat'];omega
 have w0:Nm.wat (Nm.les [a,b,c] ++ [UInt8.ofNat fl,UInt8.ofNat l.length] ++ T) 0 = a:=Nm.word_le4 ha
 have w4:Nm.wat (Nm.les [a,b,c] ++ [UInt8.ofNat fl,UInt8.ofNat l.length] ++ T) 4 = b:=Nm.word_le4 hb
 have w8:Nm.wat (Nm.les [a,b,c] ++ [UInt8.ofNat fl,UInt8.ofNat l.length] ++ T) 8 = c:=Nm.word_le4 hc
 have d14:(Nm.les [a,b,c] ++ [UInt8.ofNat fl,UInt8.ofNat l.length] ++ T).drop 14 = T:=rfl
 have hname:Nm.name (Nm.les [a,b,c] ++ [UInt8.ofNat fl,UInt8.ofNat l.length] ++ T) = l:=by
  rw [Nm.name,d14,e13,← hT];exact List.take_left' rfl
 have hpad:(Nm.pad (Nm.les [a,b,c] ++ [UInt8.ofNat fl,UInt8.ofNat l.length] ++ T)).all (· == 0) = true:=by
  rw [Nm.pad,e13,← List.drop_drop,d14,← hT,List.drop_left' rfl,List.take_left' (by simp)]
  simp
 have hg:Nm.goodB (Nm.les [a,b,c] ++ [UInt8.ofNat fl,UInt8.ofNat l.length] ++ T) = true:=by
  rw [Nm.goodB,e13,e12,hname,hlen,hpad,hr]
  simp;omega
 rw [Nm.readV_good hg,hname,e12,w0,w4,w8,e13]
end Go.Proofs.YtpcpaoeajcjoiaaGreatDoor
