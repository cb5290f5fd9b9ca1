/- Texts joined, what is not reached left out. -/
import Derived.Test.YtpcpaoeajcjoiaaGreatDoorRows
import Derived.WalkKit
import Derived.WalkLawsBesides
import Derived.WalkSpells
import Derived.StillTailTactics
import Derived.Lib.Hide
import Derived.Below
import Derived.Test.YtpcpaoeajcjoiaaGreatDoorIA
set_option linter.unusedVariables false
set_option linter.unusedSimpArgs false
namespace Go.Proofs.YtpcpaoeajcjoiaaGreatDoor
open Go.RowKit
theorem ret_bool {a b:Bool} (h:a = b):Ending.returned (.bool a) = .returned (.bool b):=by rw [h]
theorem ret_int {k:IntKind} {a b:Int} (h:a = b):Ending.returned (.int k a) = .returned (.int k b):=by rw [h]
theorem Below.one {w:World}:Below w.heap.size w ({ w with drawn:=w.drawn+1 }:World):=⟨rfl,rfl,rfl,Nat.le_refl _,fun _ _=>rfl⟩
theorem Bt.field_eq (x k:Nat) (hx:x < 4294967296) (h2:k≤32):bits .and .u32 (x:Int) ((2 ^ k - 1) % 4294967296) = ((x % 2 ^ k:Nat):Int):=by
 have hp:2 ^ k≤2 ^ 32:=Nat.pow_le_pow_right (by omega) h2
 have hp0:0 < 2 ^ k:=Nat.two_pow_pos k
 have e:((2:Int) ^ k - 1) % 4294967296 = ((2 ^ k - 1:Nat):Int):=by
  rw [Int.natCast_sub (by omega)]
  simp only [Int.natCast_pow,Int.cast_ofNat_Int]
  have:(2:Int) ^ k = ((2 ^ k:Nat):Int):=by simp
  omega
 rw [e]
 have h:(BitVec.ofInt 32 (x:Int)).toNat = x:=by rw [BitVec.ofInt_natCast,BitVec.toNat_ofNat];exact Nat.mod_eq_of_lt (by omega)
 have h':(BitVec.ofInt 32 ((2 ^ k - 1:Nat):Int)).toNat = 2 ^ k - 1:=by rw [BitVec.ofInt_natCast,BitVec.toNat_ofNat];exact Nat.mod_eq_of_lt (by omega)
 show IntKind.u32.wrap ((BitVec.ofInt 32 (x:Int) &&& BitVec.ofInt 32 ((2 ^ k - 1:Nat):Int)).toNat:Int) = _
 rw [BitVec.toNat_and,h,h',Nat.and_two_pow_sub_one_eq_mod,IntKind.wrap_u32]
 have:=Nat.mod_le x (2 ^ k)
 omega
theorem field_nat (a:Nat) (k n:Int) (w:World) (ha:a < 4294967296) (h0:0≤k) (h1:1≤n) (h2:k≤32) (h3:n≤32 - k):Calls Tryz.prog 222 #[.int .u32 a,.int .i64 k,.int .i64 n] w fun e w'=>
  e = .returned (.int .u32 ((a / 2 ^ k.toNat % 2 ^ n.toNat:Nat):Int))∧w = w':=by
 go_enter Tryz.func222,Tryz.ntmps222
 go_wp2
 go_ret
 refine ⟨ret_int ?_,rfl⟩
 have:=Bt.field_eq (a / 2 ^ k.toNat) n.toNat (Nat.lt_of_le_of_lt (Nat.div_le_self _ _) ha) (by omega)
 rw [← this]
 simp
def Bt.fieldV (a:Nat) (k n:Int):Int:=if 0≤k∧1≤n∧k≤32∧n≤32 - k then ((a / 2 ^ k.toNat % 2 ^ n.toNat:Nat):Int) else 0
theorem field_v (a:Nat) (k n:Int) (w:World) (ha:a < 4294967296):Calls Tryz.prog 222 #[.int .u32 a,.int .i64 k,.int .i64 n] w fun e w'=>e = .returned (.int .u32 (Bt.fieldV a k n))∧w = w':=by
 unfold Bt.fieldV
 split
 ·rename_i h;exact field_nat a k n w ha h.1 h.2.1 h.2.2.1 h.2.2.2
 ·rename_i h
  by_cases c1:k < 0
  ·clear h
   go_enter Tryz.func222,Tryz.ntmps222
   go_wp2
   go_ret
   exact ⟨rfl,rfl⟩
  by_cases c2:n < 1
  ·clear h
   go_enter Tryz.func222,Tryz.ntmps222
   go_wp2
   go_ret
   exact ⟨rfl,rfl⟩
  by_cases c3:32 < k
  ·clear h
   go_enter Tryz.func222,Tryz.ntmps222
   go_wp2
   go_ret
   exact ⟨rfl,rfl⟩
  have c4:32 - k < n:=by omega
  clear h
  go_enter Tryz.func222,Tryz.ntmps222
  go_wp2
  go_ret
  exact ⟨rfl,rfl⟩
theorem still_of {P:Program} {f:FuncId} {args:Array Value} {w:World} {v:Value} (h:Calls P f args w fun e w'=>e = .returned v∧w = w'):Calls P f args w fun e w'=>e = .returned v∧w' = w:=
 h.mono fun _ _ ⟨he,hw⟩=>⟨he,hw.symm⟩
theorem index_form (i:Nat) (hi:i < 48) (w:World):(Instr.index 304 (.agg Is.cells) (.int .i64 (i:Int))).run Tryz.prog w = .ok (.agg (Is.fv (Is.forms.getD i default)).toArray) w:=
 match i,hi with
 | 0,_=>by kernel_rfl
 | 1,_=>by kernel_rfl
 | 2,_=>by kernel_rfl
 | 3,_=>by kernel_rfl
 | 4,_=>by kernel_rfl
 | 5,_=>by kernel_rfl
 | 6,_=>by kernel_rfl
 | 7,_=>by kernel_rfl
 | 8,_=>by kernel_rfl
 | 9,_=>by kernel_rfl
 | 10,_=>by kernel_rfl
 | 11,_=>by kernel_rfl
 | 12,_=>by kernel_rfl
 | 13,_=>by kernel_rfl
 | 14,_=>by kernel_rfl
 | 15,_=>by kernel_rfl
 | 16,_=>by kernel_rfl
 | 17,_=>by kernel_rfl
 | 18,_=>by kernel_rfl
 | 19,_=>by kernel_rfl
 | 20,_=>by kernel_rfl
 | 21,_=>by kernel_rfl
 | 22,_=>by kernel_rfl
 | 23,_=>by kernel_rfl
 | 24,_=>by kernel_rfl
 | 25,_=>by kernel_rfl
 | 26,_=>by kernel_rfl
 | 27,_=>by kernel_rfl
 | 28,_=>by kernel_rfl
 | 29,_=>by kernel_rfl
 | 30,_=>by kernel_rfl
 | 31,_=>by kernel_rfl
 | 32,_=>by kernel_rfl
 | 33,_=>by kernel_rfl
 | 34,_=>by kernel_rfl
 | 35,_=>by kernel_rfl
 | 36,_=>by kernel_rfl
 | 37,_=>by kernel_rfl
 | 38,_=>by kernel_rfl
 | 39,_=>by kernel_rfl
 | 40,_=>by kernel_rfl
 | 41,_=>by kernel_rfl
 | 42,_=>by kernel_rfl
 | 43,_=>by kernel_rfl
 | 44,_=>by kernel_rfl
 | 45,_=>by kernel_rfl
 | 46,_=>by kernel_rfl
 | 47,_=>by kernel_rfl
 | n+48,h=>absurd h (by omega)
def Is.shape (op:Int):Int:=
 if op < 0 ∨ 48≤op then -1 else if op≤1 then 0 else if op = 2 then 1 else if 4≤op∧op≤9 then 3 else if 15≤op∧op≤17 then 4 else if 24≤op∧op≤26 then 5
 else if op = 37 then 8 else if op = 38 ∨ op = 39 then 7 else if 27≤op then 6 else 2
set_option maxHeartbeats 4000000 in
theorem shape_own (op:Int) (w:World):Calls Tryz.prog 210 #[.int .i64 op] w fun e w'=>e = .returned (.int .i64 (Is.shape op))∧w = w':=by
 go_enter Tryz.func210,Tryz.ntmps210
 go_wp2
 all_goals (go_ret;refine ⟨ret_int ?_,rfl⟩;unfold Is.shape;(try simp only [beq_iff_eq,beq_eq_false_iff_ne] at *);(repeat' split) <;> omega)
theorem reg_own (n:Int) (has:Bool) (w:World):Calls Tryz.prog 258 #[.int .i64 n,.bool has] w fun e w'=>e = .returned (.bool (decide (n = 0) || (has && (decide (0 < n) && decide (n < 32)))))∧w = w':=by
 cases has
 ·by_cases h0:n = 0
  ·subst h0
   go_enter Tryz.func258,Tryz.ntmps258
   go_wp2
   go_ret
   exact ⟨rfl,rfl⟩
  ·have g0:(n == 0) = false:=by simpa using h0
   have HF:=Lib.hid (show decide (n = 0) = false by simpa using h0)
   go_enter Tryz.func258,Tryz.ntmps258
   go_wp2
   go_ret
   exact ⟨ret_bool (by rw [HF.out];rfl),rfl⟩
 ·by_cases h0:n = 0
  ·subst h0
   go_enter Tryz.func258,Tryz.ntmps258
   go_wp2
   go_ret
   exact ⟨rfl,rfl⟩
  ·have g0:(n == 0) = false:=by simpa using h0
   have HF:=Lib.hid (show decide (n = 0) = false by simpa using h0)
   clear h0
   by_cases h1:0 < n
   ·by_cases h2:n < 32
    ·have E:=Lib.hid (show (decide (0 < n) && decide (n < 32)) = true by simp [h1,h2])
     go_enter Tryz.func258,Tryz.ntmps258
     go_wp2
     go_ret
     exact ⟨ret_bool (by first | (rw [HF.out,E.out];rfl) | simp [HF.out,E.out]),rfl⟩
    ·have E:=Lib.hid (show decide (n < 32) = false by simp [h2])
     go_enter Tryz.func258,Tryz.ntmps258
     go_wp2
     go_ret
     exact ⟨ret_bool (by first | (rw [HF.out,E.out];rfl) | simp [HF.out,E.out]),rfl⟩
   ·have E:=Lib.hid (show decide (0 < n) = false by simp [h1])
    go_enter Tryz.func258,Tryz.ntmps258
    go_wp2
    go_ret
    exact ⟨ret_bool (by first | (rw [HF.out,E.out];rfl) | simp [HF.out,E.out]),rfl⟩
structure Is.Uses where
 rd:Bool
 rs1:Bool
 rs2:Bool
 least:Int
 most:Int
 even:Bool
abbrev Is.Uses.v (u:Is.Uses):Value:=.agg #[.bool u.rd,.bool u.rs1,.bool u.rs2,.int .i64 u.least,.int .i64 u.most,.bool u.even]
def Is.uses (s:Int):Is.Uses:=
 if s = 0 then ⟨true,false,false,0,1048575,false⟩ else if s = 1 then ⟨true,false,false,-1048576,1048574,true⟩ else if s = 2 then ⟨true,true,false,-2048,2047,false⟩
 else if s = 3 then ⟨false,true,true,-4096,4094,true⟩ else if s = 4 then ⟨false,true,true,-2048,2047,false⟩ else if s = 5 then ⟨true,true,false,0,31,false⟩
 else if s = 6 then ⟨true,true,true,0,0,false⟩ else if s = 8 then ⟨false,false,false,-2048,2047,false⟩ else ⟨false,false,false,0,0,false⟩
theorem uses_own (s:Int) (w:World) (h:s = -1 ∨ s = 0 ∨ s = 1 ∨ s = 2 ∨ s = 3 ∨ s = 4 ∨ s = 5 ∨ s = 6 ∨ s = 7 ∨ s = 8):Calls Tryz.prog 257 #[.int .i64 s] w fun e w'=>e = .returned (Is.uses s).v∧Below w.heap.size w w':=by
 rcases h with rfl | rfl | rfl | rfl | rfl | rfl | rfl | rfl | rfl | rfl
 all_goals
  go_enter Tryz.func257,Tryz.ntmps257
  go_wp2
  exact bodyPost_ret (v:=(Is.uses _).v) (by simp [results,Tryz.results257,go_sem,Is.uses]) rfl ⟨rfl,(Below.refl _ _).alloc (Nat.le_refl _) _⟩
structure Is.Inst where
 op:Int
 rd:Int
 rs1:Int
 rs2:Int
 imm:Int
 deriving DecidableEq
abbrev Is.Inst.v (i:Is.Inst):Value:=.agg #[.int .i64 i.op,.int .i64 i.rd,.int .i64 i.rs1,.int .i64 i.rs2,.int .i64 i.imm]
abbrev Is.in64 (n:Int):Prop:=-9223372036854775808≤n∧n≤9223372036854775807
structure Is.Inst.ok (i:Is.Inst):Prop where
 op:Is.in64 i.op
 rd:Is.in64 i.rd
 rs1:Is.in64 i.rs1
 rs2:Is.in64 i.rs2
 imm:Is.in64 i.imm
def Is.regB (n:Int) (has:Bool):Bool:=decide (n = 0) || (has && (decide (0 < n) && decide (n < 32)))
def Is.legal (i:Is.Inst):Bool:=
 decide (0≤Is.shape i.op) && (Is.regB i.rd (Is.uses (Is.shape i.op)).rd && (Is.regB i.rs1 (Is.uses (Is.shape i.op)).rs1 && (Is.regB i.rs2 (Is.uses (Is.shape i.op)).rs2 &&
  (decide ((Is.uses (Is.shape i.op)).least≤i.imm) && (decide (i.imm≤(Is.uses (Is.shape i.op)).most) && (!(Is.uses (Is.shape i.op)).even || decide (i.imm % 2 = 0)))))))
theorem Is.shape_cases (op:Int):Is.shape op = -1 ∨ Is.shape op = 0 ∨ Is.shape op = 1 ∨ Is.shape op = 2 ∨ Is.shape op = 3 ∨ Is.shape op = 4 ∨ Is.shape op = 5 ∨ Is.shape op = 6 ∨ Is.shape op = 7 ∨ Is.shape op = 8:=by
 unfold Is.shape;(repeat' split) <;> simp
theorem Is.and_one (n:Int) (h:Is.in64 n):bits .and .i64 n 1 = n % 2:=by
 show IntKind.i64.wrap ((BitVec.ofInt 64 n &&& BitVec.ofInt 64 1).toNat:Int) = _
 have h1:(BitVec.ofInt 64 1).toNat = 1:=by decide
 have h2:(BitVec.ofInt 64 n).toNat = (n % 18446744073709551616).toNat:=by rw [BitVec.toNat_ofInt];rfl
 rw [BitVec.toNat_and,h1,h2,Nat.and_one_is_mod,IntKind.wrap_i64]
 omega
set_option maxHeartbeats 4000000 in
theorem legal_own (i:Is.Inst) (w:World) (ok:i.ok):Calls Tryz.prog 220 #[i.v] w fun e w'=>e = .returned (.bool (Is.legal i))∧Below w.heap.size w w':=by
 have hs:=Is.shape_cases i.op
 have c0:=Lib.hid (fun w=>shape_own i.op w)
 have hand:=Is.and_one i.imm ok.imm
 obtain ⟨op,rd,rs1,rs2,imm⟩:=i
 have HL:=Lib.hid (show Is.legal ⟨op,rd,rs1,rs2,imm⟩ = (decide (0≤Is.shape op) && (Is.regB rd (Is.uses (Is.shape op)).rd && (Is.regB rs1 (Is.uses (Is.shape op)).rs1 && (Is.regB rs2 (Is.uses (Is.shape op)).rs2 &&
  (decide ((Is.uses (Is.shape op)).least≤imm) && (decide (imm≤(Is.uses (Is.shape op)).most) && (!(Is.uses (Is.shape op)).even || decide (imm % 2 = 0)))))))) from rfl)
 simp only at hs c0 hand
 generalize Is.shape op = s at *
 have c1:=Lib.hid (fun w=>uses_own s w hs)
 generalize Is.uses s = u at *
 obtain ⟨u1,u2,u3,least,most,even⟩:=u
 have r1:=Lib.hid (fun w=>reg_own rd u1 w)
 have r2:=Lib.hid (fun w=>reg_own rs1 u2 w)
 have r3:=Lib.hid (fun w=>reg_own rs2 u3 w)
 simp only [Is.Uses.v] at c1
 simp only [Is.regB] at HL
 generalize (decide (rd = 0) || (u1 && (decide (0 < rd) && decide (rd < 32)))) = b1 at *
 generalize (decide (rs1 = 0) || (u2 && (decide (0 < rs1) && decide (rs1 < 32)))) = b2 at *
 generalize (decide (rs2 = 0) || (u3 && (decide (0 < rs2) && decide (rs2 < 32)))) = b3 at *
 clear ok
 have HE:=Lib.hid (show (imm % 2 == 0) = decide (imm % 2 = 0) from rfl)
 generalize imm % 2 = m2 at *
 clear hs
 go_enter Tryz.func220,Tryz.ntmps220
 go_wp2_with fail
 refine (c0.out _).mono ?_
 rintro e w' ⟨rfl,rfl⟩
 go_wp2_with fail
 refine (c1.out _).mono ?_
 rintro e w1 ⟨rfl,hb⟩
 simp only [World.size_alloc] at hb
 have q0:w1.cell? ⟨w.heap.size,0,none⟩ = some (.int .i64 op):=(hb.cell (p:=⟨w.heap.size,0,none⟩) (by simp)).trans (by go_simp)
 have q1:w1.cell? ⟨w.heap.size,1,none⟩ = some (.int .i64 rd):=(hb.cell (p:=⟨w.heap.size,1,none⟩) (by simp)).trans (by go_simp)
 have q2:w1.cell? ⟨w.heap.size,2,none⟩ = some (.int .i64 rs1):=(hb.cell (p:=⟨w.heap.size,2,none⟩) (by simp)).trans (by go_simp)
 have q3:w1.cell? ⟨w.heap.size,3,none⟩ = some (.int .i64 rs2):=(hb.cell (p:=⟨w.heap.size,3,none⟩) (by simp)).trans (by go_simp)
 have q4:w1.cell? ⟨w.heap.size,4,none⟩ = some (.int .i64 imm):=(hb.cell (p:=⟨w.heap.size,4,none⟩) (by simp)).trans (by go_simp)
 have hz:w.heap.size < w1.heap.size:=by have:=hb.size;simp at this;omega
 have HB:=Lib.hid (show Below w.heap.size w w1 from ((Below.refl _ _).alloc (Nat.le_refl _) _).trans (hb.mono (by omega)))
 clear hb
 by_cases hs:0≤s
 ·cases b1
  ·have HR:=Lib.hid (show Is.legal ⟨op,rd,rs1,rs2,imm⟩ = false by rw [HL.out];simp)
   clear HL HE
   go_wp2_with (go_at_call 258;first | ((with_reducible refine (r1.out _).mono ?_);rintro e w' ⟨rfl,rfl⟩) | ((with_reducible refine (r2.out _).mono ?_);rintro e w' ⟨rfl,rfl⟩) | ((with_reducible refine (r3.out _).mono ?_);rintro e w' ⟨rfl,rfl⟩))
   go_ret
   exact ⟨ret_bool HR.out.symm,(HB.out.alloc HB.out.size _)⟩
  ·cases b2
   ·have HR:=Lib.hid (show Is.legal ⟨op,rd,rs1,rs2,imm⟩ = false by rw [HL.out];simp)
    clear HL HE
    go_wp2_with (go_at_call 258;first | ((with_reducible refine (r1.out _).mono ?_);rintro e w' ⟨rfl,rfl⟩) | ((with_reducible refine (r2.out _).mono ?_);rintro e w' ⟨rfl,rfl⟩) | ((with_reducible refine (r3.out _).mono ?_);rintro e w' ⟨rfl,rfl⟩))
    go_ret
    exact ⟨ret_bool HR.out.symm,(HB.out.alloc HB.out.size _)⟩
   ·cases b3
    ·have HR:=Lib.hid (show Is.legal ⟨op,rd,rs1,rs2,imm⟩ = false by rw [HL.out];simp)
     clear HL HE
     go_wp2_with (go_at_call 258;first | ((with_reducible refine (r1.out _).mono ?_);rintro e w' ⟨rfl,rfl⟩) | ((with_reducible refine (r2.out _).mono ?_);rintro e w' ⟨rfl,rfl⟩) | ((with_reducible refine (r3.out _).mono ?_);rintro e w' ⟨rfl,rfl⟩))
     go_ret
     exact ⟨ret_bool HR.out.symm,(HB.out.alloc HB.out.size _)⟩
    ·by_cases h1:least≤imm
     ·by_cases h2:imm≤most
      ·cases even
       ·have HR:=Lib.hid (show Is.legal ⟨op,rd,rs1,rs2,imm⟩ = true by rw [HL.out];simp [hs,h1,h2])
        clear HL HE
        go_wp2_with (go_at_call 258;first | ((with_reducible refine (r1.out _).mono ?_);rintro e w' ⟨rfl,rfl⟩) | ((with_reducible refine (r2.out _).mono ?_);rintro e w' ⟨rfl,rfl⟩) | ((with_reducible refine (r3.out _).mono ?_);rintro e w' ⟨rfl,rfl⟩))
        go_ret
        exact ⟨ret_bool HR.out.symm,(HB.out.alloc HB.out.size _)⟩
       ·by_cases h3:m2 = 0
        ·have g3:(m2 == 0) = true:=by simp [h3]
         have HR:=Lib.hid (show Is.legal ⟨op,rd,rs1,rs2,imm⟩ = true by rw [HL.out];simp [hs,h1,h2,h3])
         clear HL HE
         go_wp2_with (go_at_call 258;first | ((with_reducible refine (r1.out _).mono ?_);rintro e w' ⟨rfl,rfl⟩) | ((with_reducible refine (r2.out _).mono ?_);rintro e w' ⟨rfl,rfl⟩) | ((with_reducible refine (r3.out _).mono ?_);rintro e w' ⟨rfl,rfl⟩))
         go_ret
         exact ⟨ret_bool HR.out.symm,(HB.out.alloc HB.out.size _)⟩
        ·have g3:(m2 == 0) = false:=by simp [h3]
         have HR:=Lib.hid (show Is.legal ⟨op,rd,rs1,rs2,imm⟩ = false by rw [HL.out];simp [hs,h1,h2,h3])
         clear HL HE
         go_wp2_with (go_at_call 258;first | ((with_reducible refine (r1.out _).mono ?_);rintro e w' ⟨rfl,rfl⟩) | ((with_reducible refine (r2.out _).mono ?_);rintro e w' ⟨rfl,rfl⟩) | ((with_reducible refine (r3.out _).mono ?_);rintro e w' ⟨rfl,rfl⟩))
         go_ret
         exact ⟨ret_bool HR.out.symm,(HB.out.alloc HB.out.size _)⟩
      ·have HR:=Lib.hid (show Is.legal ⟨op,rd,rs1,rs2,imm⟩ = false by rw [HL.out];simp [h2])
       clear HL HE
       go_wp2_with (go_at_call 258;first | ((with_reducible refine (r1.out _).mono ?_);rintro e w' ⟨rfl,rfl⟩) | ((with_reducible refine (r2.out _).mono ?_);rintro e w' ⟨rfl,rfl⟩) | ((with_reducible refine (r3.out _).mono ?_);rintro e w' ⟨rfl,rfl⟩))
       go_ret
       exact ⟨ret_bool HR.out.symm,(HB.out.alloc HB.out.size _)⟩
     ·have HR:=Lib.hid (show Is.legal ⟨op,rd,rs1,rs2,imm⟩ = false by rw [HL.out];simp [h1])
      clear HL HE
      go_wp2_with (go_at_call 258;first | ((with_reducible refine (r1.out _).mono ?_);rintro e w' ⟨rfl,rfl⟩) | ((with_reducible refine (r2.out _).mono ?_);rintro e w' ⟨rfl,rfl⟩) | ((with_reducible refine (r3.out _).mono ?_);rintro e w' ⟨rfl,rfl⟩))
      go_ret
      exact ⟨ret_bool HR.out.symm,(HB.out.alloc HB.out.size _)⟩
 ·have HR:=Lib.hid (show Is.legal ⟨op,rd,rs1,rs2,imm⟩ = false by rw [HL.out];simp [hs])
  clear HL HE
  go_wp2_with (go_at_call 258;first | ((with_reducible refine (r1.out _).mono ?_);rintro e w' ⟨rfl,rfl⟩) | ((with_reducible refine (r2.out _).mono ?_);rintro e w' ⟨rfl,rfl⟩) | ((with_reducible refine (r3.out _).mono ?_);rintro e w' ⟨rfl,rfl⟩))
  go_ret
  exact ⟨ret_bool HR.out.symm,(HB.out.alloc HB.out.size _)⟩
end Go.Proofs.YtpcpaoeajcjoiaaGreatDoor
