/- Texts joined, what is not reached left out. -/
import Derived.Test.YtpcpaoeajcjoiaaGreatDoorQL6Num
import Derived.Test.YtpcpaoeajcjoiaaGreatDoorKO
set_option linter.unusedVariables false
set_option linter.unusedSimpArgs false
namespace Go.Proofs.YtpcpaoeajcjoiaaGreatDoor
open Go.RowKit Kit
def L6.quoted3 (l:List UInt8):Bool:=decide (l.length = 3) && (l.getD 0 0 == 39 && l.getD 2 0 == 39)
def L6.rawV (l:List UInt8):Int × Bool:=
 if Lib.hasPrefix l [48,120] && !(Lib.trimPrefix l [48,120]).isEmpty then (((L6.digitsV 16 (Lib.trimPrefix l [48,120])).1:Nat),(L6.digitsV 16 (Lib.trimPrefix l [48,120])).2)
 else if Lib.hasPrefix l [45] then (-((L6.digitsV 10 (Lib.trimPrefix l [45])).1:Nat),(L6.digitsV 10 (Lib.trimPrefix l [45])).2)
 else (((L6.digitsV 10 l).1:Nat),(L6.digitsV 10 l).2)
def L6.number (l:List UInt8):Int × Bool:=
 if L6.quoted3 l then ((((l.getD 1 0).toNat:Nat):Int),true)
 else if (L6.rawV l).2 && (decide (-2147483648≤(L6.rawV l).1) && decide ((L6.rawV l).1≤4294967295)) then ((L6.rawV l).1,true) else (0,false)
theorem L6.trimP_len (l p:List UInt8):(Lib.trimPrefix l p).length≤l.length:=by
 unfold Lib.trimPrefix
 split
 ·simp
 ·exact Nat.le_refl _
theorem wrap64_byte (c:UInt8):wrap64 (c.toNat:Int) = (c.toNat:Int):=by
 have:=c.toNat_lt
 unfold wrap64
 omega
theorem L6.number_raw {l:List UInt8} (hq:L6.quoted3 l = false):L6.number l = if (L6.rawV l).2 && (decide (-2147483648≤(L6.rawV l).1) && decide ((L6.rawV l).1≤4294967295)) then ((L6.rawV l).1,true) else (0,false):=by
 unfold L6.number;rw [hq];rfl
set_option maxRecDepth 20000 in
set_option maxHeartbeats 1000000 in
theorem lnumber_any (l:List UInt8) (w:World) (hl:l.length≤maxLen):Calls Tryz.prog 167 #[.string ⟨l.toArray⟩] w fun e w'=>e = .returned (.tuple #[.int .i64 (L6.number l).1,.bool (L6.number l).2])∧w = w':=by
 have HL:=Lib.hid hl
 have cD:=Lib.hid (fun (t:List UInt8) (ht:t.length≤maxLen) (b:Nat) (h0:2≤b) (h1:b≤16) W=>ldigits_any t b W ht h0 h1)
 have cX:=Lib.hid (fun W=>Tryz.strings_CutPrefix ⟨l.toArray⟩ ⟨#[48,120]⟩ W)
 have cM:=Lib.hid (fun W=>Tryz.strings_CutPrefix ⟨l.toArray⟩ ⟨#[45]⟩ W)
 have HN:=Lib.hid (L6.number_raw (l:=l))
 have HT:=Lib.hid (L6.trimP_len l)
 have HQ:=Lib.hid (show L6.quoted3 l = (decide (l.length = 3) && (l.getD 0 0 == 39 && l.getD 2 0 == 39)) from rfl)
 have HNQ:=Lib.hid (show L6.quoted3 l = true→L6.number l = ((((l.getD 1 0).toNat:Nat):Int),true) from fun h=>by unfold L6.number;rw [if_pos h])
 by_cases hq:L6.quoted3 l = true
 ·have hn:=HNQ.out hq
  have HNV:=Lib.hid hn
  unfold L6.quoted3 at hq
  simp only [Bool.and_eq_true,decide_eq_true_eq,beq_iff_eq] at hq
  obtain ⟨h3,q0,q2⟩:=hq
  have g0:0 < l.length:=by omega
  have g1:1 < l.length:=by omega
  have g2:2 < l.length:=by omega
  have k3:(l.length:Int) = 3:=by omega
  have e0:(((⟨l.toArray⟩:ByteArray)[0]'g0).toNat:Int) = 39:=by rw [L6.get_data l 0 g0,q0];rfl
  have e2:(((⟨l.toArray⟩:ByteArray)[2]'g2).toNat:Int) = 39:=by rw [L6.get_data l 2 g2,q2];rfl
  have E1:=Lib.hid (L6.get_data l 1 g1)
  have hw:=wrap64_byte ((⟨l.toArray⟩:ByteArray)[1]'g1)
  clear hn q0 q2 h3
  go_enter Tryz.func167,Tryz.ntmps167
  go_wp2_with fail
  go_ret2
  exact ⟨lret_ib (by rw [HNV.out,← E1.out]) (by rw [HNV.out]),rfl⟩
 ·have HNV:=Lib.hid (HN.out (by simpa using hq))
  have HQF:=Lib.hid (show L6.quoted3 l = false by simpa using hq)
  clear hq
  go_enter Tryz.func167,Tryz.ntmps167
  go_upto_region 1 with fail
  go_cut [22] (fun s22 wx=>s22 = .bool false∧wx = w)
  case first=>
   by_cases h3:l.length = 3
   ·have k3:(l.length:Int) = 3:=by omega
    have g0:0 < l.length:=by omega
    have g2:2 < l.length:=by omega
    have e0:((((⟨l.toArray⟩:ByteArray)[0]'g0).toNat:Int) == 39) = (l.getD 0 0 == 39):=by rw [L6.get_data l 0 g0];exact byte_eq _ 39
    have e2:((((⟨l.toArray⟩:ByteArray)[2]'g2).toNat:Int) == 39) = (l.getD 2 0 == 39):=by rw [L6.get_data l 2 g2];exact byte_eq _ 39
    have hq:=HQF.out
    unfold L6.quoted3 at hq
    rw [decide_eq_true h3,Bool.true_and] at hq
    cases c0:(l.getD 0 0 == 39)
    ·rw [c0] at e0
     clear e2 hq c0 h3
     go_wp2_with fail
     go_meet
     exact ⟨rfl,rfl⟩
    ·rw [c0,Bool.true_and] at hq
     rw [c0] at e0
     rw [hq] at e2
     clear hq c0 h3
     go_wp2_with fail
     go_meet
     exact ⟨rfl,rfl⟩
   ·have k3:((l.length:Int) == 3) = false:=by rw [beq_eq_false_iff_ne];omega
    clear h3
    go_wp2_with fail
    go_meet
    exact ⟨rfl,rfl⟩
  case rest=>
   obtain ⟨rfl,rfl⟩:=hcut
   have HRD:Hid (L6.rawV l = if Lib.hasPrefix l [48,120] && !(Lib.trimPrefix l [48,120]).isEmpty then ((((L6.digitsV 16 (Lib.trimPrefix l [48,120])).1:Nat):Int),(L6.digitsV 16 (Lib.trimPrefix l [48,120])).2)
    else if Lib.hasPrefix l [45] then (-((L6.digitsV 10 (Lib.trimPrefix l [45])).1:Nat),(L6.digitsV 10 (Lib.trimPrefix l [45])).2) else (((L6.digitsV 10 l).1:Nat),(L6.digitsV 10 l).2)):=Lib.hid rfl
   have cX':=Lib.hid (fun W=>(cX.out W).mono (R':=fun e w'=>e = .returned (.tuple #[.string ⟨(Lib.trimPrefix l [48,120]).toArray⟩,.bool (Lib.hasPrefix l [48,120])])∧W = w') (fun _ _ h=>⟨h.1,h.2.symm⟩))
   have cM':=Lib.hid (fun W=>(cM.out W).mono (R':=fun e w'=>e = .returned (.tuple #[.string ⟨(Lib.trimPrefix l [45]).toArray⟩,.bool (Lib.hasPrefix l [45])])∧W = w') (fun _ _ h=>⟨h.1,h.2.symm⟩))
   have HT1:=Lib.hid (Nat.le_trans (HT.out [48,120]) HL.out)
   have HT2:=Lib.hid (Nat.le_trans (HT.out [45]) HL.out)
   clear HQ HNQ HN cX cM HT
   generalize Lib.trimPrefix l [48,120] = tx at *
   generalize Lib.trimPrefix l [45] = tm at *
   generalize Lib.hasPrefix l [48,120] = bx at *
   generalize Lib.hasPrefix l [45] = bm at *
   generalize L6.rawV l = R at *
   obtain ⟨N,O⟩:=R
   dsimp only at HNV
   have HALL:=Lib.hid HRD.out
   have hneg:IntKind.i64.wrap (-((L6.digitsV 10 tm).1:Int)) = -((L6.digitsV 10 tm).1:Int):=by have:=L6.digitsV_le 10 tm;rw [IntKind.wrap_i64];omega
   have HNEG:=Lib.hid hneg
   clear hneg HRD
   cases bx
   ·have HL1:=Lib.hid HL.out
    cases bm
    ·have HL0:=Lib.hid HL.out
     have CD:=Lib.hid (show ∀ W,Calls Tryz.prog 231 #[.string ⟨l.toArray⟩,.int .i64 10] W fun e w'=>e = .returned (.tuple #[.int .i64 (L6.digitsV 10 l).1,.bool (L6.digitsV 10 l).2])∧W = w' from fun W=>cD.out l HL.out 10 (by decide) (by decide) W)
     have hN:N = (L6.digitsV 10 l).1:=by have:=HALL.out;simpa using congrArg Prod.fst this
     have hO:O = (L6.digitsV 10 l).2:=by have:=HALL.out;simpa using congrArg Prod.snd this
     clear HALL cD
     generalize (L6.digitsV 10 l).1 = n at *
     generalize (L6.digitsV 10 l).2 = o at *
     subst hN hO
     cases O
     ·have HR:=Lib.hid (show L6.number l = (0,false) from by rw [HNV.out];rfl)
      clear HNV
      go_wp2_with (first | (go_at_call 230;with_reducible refine (cX'.out _).mono ?_;rintro e w' ⟨rfl,rfl⟩) | (go_at_call 230;with_reducible refine (cM'.out _).mono ?_;rintro e w' ⟨rfl,rfl⟩) | (go_at_call 231;refine (CD.out _).mono ?_;rintro e w' ⟨rfl,rfl⟩))
      go_ret2
      exact ⟨lret_ib (by rw [HR.out];try rfl) (by rw [HR.out]),rfl⟩
     ·by_cases hlo:(n:Int) < -2147483648
      ·have HR:=Lib.hid (show L6.number l = (0,false) from by rw [HNV.out,decide_eq_false (by omega:¬ (-2147483648≤(n:Int)))];rfl)
       clear HNV
       go_wp2_with (first | (go_at_call 230;with_reducible refine (cX'.out _).mono ?_;rintro e w' ⟨rfl,rfl⟩) | (go_at_call 230;with_reducible refine (cM'.out _).mono ?_;rintro e w' ⟨rfl,rfl⟩) | (go_at_call 231;refine (CD.out _).mono ?_;rintro e w' ⟨rfl,rfl⟩))
       go_ret2
       exact ⟨lret_ib (by rw [HR.out];try rfl) (by rw [HR.out]),rfl⟩
      ·by_cases hhi:4294967295 < (n:Int)
       ·have HR:=Lib.hid (show L6.number l = (0,false) from by rw [HNV.out,decide_eq_false (by omega:¬ ((n:Int)≤4294967295)),Bool.and_false,Bool.and_false];rfl)
        clear HNV
        go_wp2_with (first | (go_at_call 230;with_reducible refine (cX'.out _).mono ?_;rintro e w' ⟨rfl,rfl⟩) | (go_at_call 230;with_reducible refine (cM'.out _).mono ?_;rintro e w' ⟨rfl,rfl⟩) | (go_at_call 231;refine (CD.out _).mono ?_;rintro e w' ⟨rfl,rfl⟩))
        go_ret2
        exact ⟨lret_ib (by rw [HR.out];try rfl) (by rw [HR.out]),rfl⟩
       ·have HR:=Lib.hid (show L6.number l = ((n:Int),true) from by rw [HNV.out,decide_eq_true (by omega:(n:Int)≤4294967295),decide_eq_true (by omega:-2147483648≤(n:Int))];rfl)
        clear HNV
        go_wp2_with (first | (go_at_call 230;with_reducible refine (cX'.out _).mono ?_;rintro e w' ⟨rfl,rfl⟩) | (go_at_call 230;with_reducible refine (cM'.out _).mono ?_;rintro e w' ⟨rfl,rfl⟩) | (go_at_call 231;refine (CD.out _).mono ?_;rintro e w' ⟨rfl,rfl⟩))
        go_ret2
        exact ⟨lret_ib (by rw [HR.out]) (by rw [HR.out]),rfl⟩
    ·have HL0:=Lib.hid HL.out
     have CD:=Lib.hid (show ∀ W,Calls Tryz.prog 231 #[.string ⟨tm.toArray⟩,.int .i64 10] W fun e w'=>e = .returned (.tuple #[.int .i64 (L6.digitsV 10 tm).1,.bool (L6.digitsV 10 tm).2])∧W = w' from fun W=>cD.out tm HT2.out 10 (by decide) (by decide) W)
     have hneg:=HNEG.out
     have hN:N = -(L6.digitsV 10 tm).1:=by have:=HALL.out;simpa using congrArg Prod.fst this
     have hO:O = (L6.digitsV 10 tm).2:=by have:=HALL.out;simpa using congrArg Prod.snd this
     clear HALL cD
     generalize (L6.digitsV 10 tm).1 = n at *
     generalize (L6.digitsV 10 tm).2 = o at *
     subst hN hO
     cases O
     ·have HR:=Lib.hid (show L6.number l = (0,false) from by rw [HNV.out];rfl)
      clear HNV
      go_wp2_with (first | (go_at_call 230;with_reducible refine (cX'.out _).mono ?_;rintro e w' ⟨rfl,rfl⟩) | (go_at_call 230;with_reducible refine (cM'.out _).mono ?_;rintro e w' ⟨rfl,rfl⟩) | (go_at_call 231;refine (CD.out _).mono ?_;rintro e w' ⟨rfl,rfl⟩))
      go_ret2
      exact ⟨lret_ib (by rw [HR.out];try rfl) (by rw [HR.out]),rfl⟩
     ·by_cases hlo:-(n:Int) < -2147483648
      ·have HR:=Lib.hid (show L6.number l = (0,false) from by rw [HNV.out,decide_eq_false (by omega:¬ (-2147483648≤-(n:Int)))];rfl)
       clear HNV
       go_wp2_with (first | (go_at_call 230;with_reducible refine (cX'.out _).mono ?_;rintro e w' ⟨rfl,rfl⟩) | (go_at_call 230;with_reducible refine (cM'.out _).mono ?_;rintro e w' ⟨rfl,rfl⟩) | (go_at_call 231;refine (CD.out _).mono ?_;rintro e w' ⟨rfl,rfl⟩))
       go_ret2
       exact ⟨lret_ib (by rw [HR.out];try rfl) (by rw [HR.out]),rfl⟩
      ·by_cases hhi:4294967295 < -(n:Int)
       ·exact absurd hhi (by omega)
       ·have HR:=Lib.hid (show L6.number l = (-(n:Int),true) from by rw [HNV.out,decide_eq_true (by omega:-(n:Int)≤4294967295),decide_eq_true (by omega:-2147483648≤-(n:Int))];rfl)
        clear HNV
        go_wp2_with (first | (go_at_call 230;with_reducible refine (cX'.out _).mono ?_;rintro e w' ⟨rfl,rfl⟩) | (go_at_call 230;with_reducible refine (cM'.out _).mono ?_;rintro e w' ⟨rfl,rfl⟩) | (go_at_call 231;refine (CD.out _).mono ?_;rintro e w' ⟨rfl,rfl⟩))
        go_ret2
        exact ⟨lret_ib (by rw [HR.out]) (by rw [HR.out]),rfl⟩
   ·cases tx with
    | nil=>
     cases bm
     ·have HL0:=Lib.hid HL.out
      have CD:=Lib.hid (show ∀ W,Calls Tryz.prog 231 #[.string ⟨l.toArray⟩,.int .i64 10] W fun e w'=>e = .returned (.tuple #[.int .i64 (L6.digitsV 10 l).1,.bool (L6.digitsV 10 l).2])∧W = w' from fun W=>cD.out l HL.out 10 (by decide) (by decide) W)
      have hN:N = (L6.digitsV 10 l).1:=by have:=HALL.out;simpa using congrArg Prod.fst this
      have hO:O = (L6.digitsV 10 l).2:=by have:=HALL.out;simpa using congrArg Prod.snd this
      clear HALL cD
      generalize (L6.digitsV 10 l).1 = n at *
      generalize (L6.digitsV 10 l).2 = o at *
      subst hN hO
      cases O
      ·have HR:=Lib.hid (show L6.number l = (0,false) from by rw [HNV.out];rfl)
       clear HNV
       go_wp2_with (first | (go_at_call 230;with_reducible refine (cX'.out _).mono ?_;rintro e w' ⟨rfl,rfl⟩) | (go_at_call 230;with_reducible refine (cM'.out _).mono ?_;rintro e w' ⟨rfl,rfl⟩) | (go_at_call 231;refine (CD.out _).mono ?_;rintro e w' ⟨rfl,rfl⟩))
       go_ret2
       exact ⟨lret_ib (by rw [HR.out];try rfl) (by rw [HR.out]),rfl⟩
      ·by_cases hlo:(n:Int) < -2147483648
       ·have HR:=Lib.hid (show L6.number l = (0,false) from by rw [HNV.out,decide_eq_false (by omega:¬ (-2147483648≤(n:Int)))];rfl)
        clear HNV
        go_wp2_with (first | (go_at_call 230;with_reducible refine (cX'.out _).mono ?_;rintro e w' ⟨rfl,rfl⟩) | (go_at_call 230;with_reducible refine (cM'.out _).mono ?_;rintro e w' ⟨rfl,rfl⟩) | (go_at_call 231;refine (CD.out _).mono ?_;rintro e w' ⟨rfl,rfl⟩))
        go_ret2
        exact ⟨lret_ib (by rw [HR.out];try rfl) (by rw [HR.out]),rfl⟩
       ·by_cases hhi:4294967295 < (n:Int)
        ·have HR:=Lib.hid (show L6.number l = (0,false) from by rw [HNV.out,decide_eq_false (by omega:¬ ((n:Int)≤4294967295)),Bool.and_false,Bool.and_false];rfl)
         clear HNV
         go_wp2_with (first | (go_at_call 230;with_reducible refine (cX'.out _).mono ?_;rintro e w' ⟨rfl,rfl⟩) | (go_at_call 230;with_reducible refine (cM'.out _).mono ?_;rintro e w' ⟨rfl,rfl⟩) | (go_at_call 231;refine (CD.out _).mono ?_;rintro e w' ⟨rfl,rfl⟩))
         go_ret2
         exact ⟨lret_ib (by rw [HR.out];try rfl) (by rw [HR.out]),rfl⟩
        ·have HR:=Lib.hid (show L6.number l = ((n:Int),true) from by rw [HNV.out,decide_eq_true (by omega:(n:Int)≤4294967295),decide_eq_true (by omega:-2147483648≤(n:Int))];rfl)
         clear HNV
         go_wp2_with (first | (go_at_call 230;with_reducible refine (cX'.out _).mono ?_;rintro e w' ⟨rfl,rfl⟩) | (go_at_call 230;with_reducible refine (cM'.out _).mono ?_;rintro e w' ⟨rfl,rfl⟩) | (go_at_call 231;refine (CD.out _).mono ?_;rintro e w' ⟨rfl,rfl⟩))
         go_ret2
         exact ⟨lret_ib (by rw [HR.out]) (by rw [HR.out]),rfl⟩
     ·have HL0:=Lib.hid HL.out
      have CD:=Lib.hid (show ∀ W,Calls Tryz.prog 231 #[.string ⟨tm.toArray⟩,.int .i64 10] W fun e w'=>e = .returned (.tuple #[.int .i64 (L6.digitsV 10 tm).1,.bool (L6.digitsV 10 tm).2])∧W = w' from fun W=>cD.out tm HT2.out 10 (by decide) (by decide) W)
      have hneg:=HNEG.out
      have hN:N = -(L6.digitsV 10 tm).1:=by have:=HALL.out;simpa using congrArg Prod.fst this
      have hO:O = (L6.digitsV 10 tm).2:=by have:=HALL.out;simpa using congrArg Prod.snd this
      clear HALL cD
      generalize (L6.digitsV 10 tm).1 = n at *
      generalize (L6.digitsV 10 tm).2 = o at *
      subst hN hO
      cases O
      ·have HR:=Lib.hid (show L6.number l = (0,false) from by rw [HNV.out];rfl)
       clear HNV
       go_wp2_with (first | (go_at_call 230;with_reducible refine (cX'.out _).mono ?_;rintro e w' ⟨rfl,rfl⟩) | (go_at_call 230;with_reducible refine (cM'.out _).mono ?_;rintro e w' ⟨rfl,rfl⟩) | (go_at_call 231;refine (CD.out _).mono ?_;rintro e w' ⟨rfl,rfl⟩))
       go_ret2
       exact ⟨lret_ib (by rw [HR.out];try rfl) (by rw [HR.out]),rfl⟩
      ·by_cases hlo:-(n:Int) < -2147483648
       ·have HR:=Lib.hid (show L6.number l = (0,false) from by rw [HNV.out,decide_eq_false (by omega:¬ (-2147483648≤-(n:Int)))];rfl)
        clear HNV
        go_wp2_with (first | (go_at_call 230;with_reducible refine (cX'.out _).mono ?_;rintro e w' ⟨rfl,rfl⟩) | (go_at_call 230;with_reducible refine (cM'.out _).mono ?_;rintro e w' ⟨rfl,rfl⟩) | (go_at_call 231;refine (CD.out _).mono ?_;rintro e w' ⟨rfl,rfl⟩))
        go_ret2
        exact ⟨lret_ib (by rw [HR.out];try rfl) (by rw [HR.out]),rfl⟩
       ·by_cases hhi:4294967295 < -(n:Int)
        ·exact absurd hhi (by omega)
        ·have HR:=Lib.hid (show L6.number l = (-(n:Int),true) from by rw [HNV.out,decide_eq_true (by omega:-(n:Int)≤4294967295),decide_eq_true (by omega:-2147483648≤-(n:Int))];rfl)
         clear HNV
         go_wp2_with (first | (go_at_call 230;with_reducible refine (cX'.out _).mono ?_;rintro e w' ⟨rfl,rfl⟩) | (go_at_call 230;with_reducible refine (cM'.out _).mono ?_;rintro e w' ⟨rfl,rfl⟩) | (go_at_call 231;refine (CD.out _).mono ?_;rintro e w' ⟨rfl,rfl⟩))
         go_ret2
         exact ⟨lret_ib (by rw [HR.out]) (by rw [HR.out]),rfl⟩
    | cons c tx=>
     have CD:=Lib.hid (show ∀ W,Calls Tryz.prog 231 #[.string ⟨(c :: tx).toArray⟩,.int .i64 16] W fun e w'=>e = .returned (.tuple #[.int .i64 (L6.digitsV 16 (c :: tx)).1,.bool (L6.digitsV 16 (c :: tx)).2])∧W = w' from fun W=>cD.out (c :: tx) HT1.out 16 (by decide) (by decide) W)
     have hN:N = (L6.digitsV 16 (c :: tx)).1:=by have:=HALL.out;simpa using congrArg Prod.fst this
     have hO:O = (L6.digitsV 16 (c :: tx)).2:=by have:=HALL.out;simpa using congrArg Prod.snd this
     clear HALL cD
     generalize (L6.digitsV 16 (c :: tx)).1 = n at *
     generalize (L6.digitsV 16 (c :: tx)).2 = o at *
     subst hN hO
     cases O
     ·have HR:=Lib.hid (show L6.number l = (0,false) from by rw [HNV.out];rfl)
      clear HNV
      go_wp2_with (first | (go_at_call 230;with_reducible refine (cX'.out _).mono ?_;rintro e w' ⟨rfl,rfl⟩) | (go_at_call 230;with_reducible refine (cM'.out _).mono ?_;rintro e w' ⟨rfl,rfl⟩) | (go_at_call 231;refine (CD.out _).mono ?_;rintro e w' ⟨rfl,rfl⟩))
      go_ret2
      exact ⟨lret_ib (by rw [HR.out];try rfl) (by rw [HR.out]),rfl⟩
     ·by_cases hlo:(n:Int) < -2147483648
      ·have HR:=Lib.hid (show L6.number l = (0,false) from by rw [HNV.out,decide_eq_false (by omega:¬ (-2147483648≤(n:Int)))];rfl)
       clear HNV
       go_wp2_with (first | (go_at_call 230;with_reducible refine (cX'.out _).mono ?_;rintro e w' ⟨rfl,rfl⟩) | (go_at_call 230;with_reducible refine (cM'.out _).mono ?_;rintro e w' ⟨rfl,rfl⟩) | (go_at_call 231;refine (CD.out _).mono ?_;rintro e w' ⟨rfl,rfl⟩))
       go_ret2
       exact ⟨lret_ib (by rw [HR.out];try rfl) (by rw [HR.out]),rfl⟩
      ·by_cases hhi:4294967295 < (n:Int)
       ·have HR:=Lib.hid (show L6.number l = (0,false) from by rw [HNV.out,decide_eq_false (by omega:¬ ((n:Int)≤4294967295)),Bool.and_false,Bool.and_false];rfl)
        clear HNV
        go_wp2_with (first | (go_at_call 230;with_reducible refine (cX'.out _).mono ?_;rintro e w' ⟨rfl,rfl⟩) | (go_at_call 230;with_reducible refine (cM'.out _).mono ?_;rintro e w' ⟨rfl,rfl⟩) | (go_at_call 231;refine (CD.out _).mono ?_;rintro e w' ⟨rfl,rfl⟩))
        go_ret2
        exact ⟨lret_ib (by rw [HR.out];try rfl) (by rw [HR.out]),rfl⟩
       ·have HR:=Lib.hid (show L6.number l = ((n:Int),true) from by rw [HNV.out,decide_eq_true (by omega:(n:Int)≤4294967295),decide_eq_true (by omega:-2147483648≤(n:Int))];rfl)
        clear HNV
        go_wp2_with (first | (go_at_call 230;with_reducible refine (cX'.out _).mono ?_;rintro e w' ⟨rfl,rfl⟩) | (go_at_call 230;with_reducible refine (cM'.out _).mono ?_;rintro e w' ⟨rfl,rfl⟩) | (go_at_call 231;refine (CD.out _).mono ?_;rintro e w' ⟨rfl,rfl⟩))
        go_ret2
        exact ⟨lret_ib (by rw [HR.out]) (by rw [HR.out]),rfl⟩
def L6.Tab (w : World) : Prop := Lib.TabIs Tryz.prog w "internal/strconv.uint64pow10" .u64 Lib.pow10Tab
theorem below_grew (w:World) (k:Nat) (os:Array Obj):Below w.heap.size w (Sort.grow (w.drewN k) os):=
 ⟨rfl,rfl,rfl,by simp [Sort.grow,World.drewN],fun i hi=>by simp only [Sort.grow,World.drewN,Array.getElem?_append];rw [if_pos hi]⟩
theorem litoa_any (n:Nat) (w:World) (hn:n≤4294967296) (h:n < 100 ∨ L6.Tab w):Calls Tryz.prog 61 #[.int .i64 (n:Int)] w fun e w'=>e = .returned (.string ⟨(Lib.decDigits n).toArray⟩)∧Below w.heap.size w w':=by
 rcases h with h | h
 ·exact (Tryz.strconv_Itoa_small n h w).mono fun e w' hh=>⟨hh.1,by rw [hh.2];exact Below.refl _ _⟩
 ·refine (Tryz.strconv_Itoa n (by omega) (by omega) w h).mono ?_
  rintro e w' ⟨rfl,k,os,rfl⟩
  exact ⟨by rw [Lib.itoa_nonneg],below_grew w k os⟩
def L6.rowsV (c:UInt8) (n:Nat):Nat × Bool:=
 if c = 120∧n < 32 then (n,true) else if c = 116∧n < 3 then (5+n,true) else if c = 116∧n < 7 then (25+n,true)
 else if c = 115∧n < 2 then (8+n,true) else if c = 115∧n < 12 then (16+n,true) else if c = 97∧n < 8 then (10+n,true) else (0,false)
theorem byte_ne {c:UInt8} (d:UInt8) (h:c ≠ d):((c.toNat:Int) == (d.toNat:Int)) = false:=by rw [byte_eq];simpa using h
set_option maxRecDepth 20000 in
theorem lrows_any (c:UInt8) (n:Nat) (w:World) (hn:n≤4294967296):Calls Tryz.prog 272 #[.int .u8 c.toNat,.int .i64 (n:Int)] w fun e w'=>e = .returned (.tuple #[.int .i64 (L6.rowsV c n).1,.bool (L6.rowsV c n).2])∧w = w':=by
 by_cases h1:c = 120
 ·subst h1
  by_cases a1:n < 32
  ·have b1:(n:Int) < 32:=by omega
   have HR:=Lib.hid (show L6.rowsV 120 n = (n,true) from by unfold L6.rowsV;simp [a1])
   go_enter Tryz.func272,Tryz.ntmps272
   go_wp2_with fail
   go_ret2
   exact ⟨lret_ib (by rw [HR.out]) (by rw [HR.out]),rfl⟩
  ·have b1:¬ (n:Int) < 32:=by omega
   have HR:=Lib.hid (show L6.rowsV 120 n = (0,false) from by unfold L6.rowsV;simp [a1])
   go_enter Tryz.func272,Tryz.ntmps272
   go_wp2_with fail
   go_ret2
   exact ⟨lret_ib (by rw [HR.out];rfl) (by rw [HR.out]),rfl⟩
 have f1:((c.toNat:Int) == 120) = false:=byte_ne 120 h1
 by_cases h2:c = 116
 ·subst h2
  by_cases a1:n < 3
  ·have b1:(n:Int) < 3:=by omega
   have hw:IntKind.i64.wrap (5+(n:Int)) = 5+(n:Int):=by rw [IntKind.wrap_i64];omega
   have HR:=Lib.hid (show L6.rowsV 116 n = (5+n,true) from by unfold L6.rowsV;simp [a1])
   clear f1 h1
   go_enter Tryz.func272,Tryz.ntmps272
   go_wp2_with fail
   go_ret2
   exact ⟨lret_ib (by rw [HR.out];simp) (by rw [HR.out]),rfl⟩
  ·have b1:¬ (n:Int) < 3:=by omega
   by_cases a2:n < 7
   ·have b2:(n:Int) < 7:=by omega
    have hw:IntKind.i64.wrap (25+(n:Int)) = 25+(n:Int):=by rw [IntKind.wrap_i64];omega
    have HR:=Lib.hid (show L6.rowsV 116 n = (25+n,true) from by unfold L6.rowsV;simp [a1,a2])
    clear f1 h1
    go_enter Tryz.func272,Tryz.ntmps272
    go_wp2_with fail
    go_ret2
    exact ⟨lret_ib (by rw [HR.out];simp) (by rw [HR.out]),rfl⟩
   ·have b2:¬ (n:Int) < 7:=by omega
    have HR:=Lib.hid (show L6.rowsV 116 n = (0,false) from by unfold L6.rowsV;simp [a1,a2])
    clear f1 h1
    go_enter Tryz.func272,Tryz.ntmps272
    go_wp2_with fail
    go_ret2
    exact ⟨lret_ib (by rw [HR.out];rfl) (by rw [HR.out]),rfl⟩
 have f2:((c.toNat:Int) == 116) = false:=byte_ne 116 h2
 by_cases h3:c = 115
 ·subst h3
  by_cases a1:n < 2
  ·have b1:(n:Int) < 2:=by omega
   have hw:IntKind.i64.wrap (8+(n:Int)) = 8+(n:Int):=by rw [IntKind.wrap_i64];omega
   have HR:=Lib.hid (show L6.rowsV 115 n = (8+n,true) from by unfold L6.rowsV;simp [a1])
   clear f1 h1 f2 h2
   go_enter Tryz.func272,Tryz.ntmps272
   go_wp2_with fail
   go_ret2
   exact ⟨lret_ib (by rw [HR.out];simp) (by rw [HR.out]),rfl⟩
  ·have b1:¬ (n:Int) < 2:=by omega
   by_cases a2:n < 12
   ·have b2:(n:Int) < 12:=by omega
    have hw:IntKind.i64.wrap (16+(n:Int)) = 16+(n:Int):=by rw [IntKind.wrap_i64];omega
    have HR:=Lib.hid (show L6.rowsV 115 n = (16+n,true) from by unfold L6.rowsV;simp [a1,a2])
    clear f1 h1 f2 h2
    go_enter Tryz.func272,Tryz.ntmps272
    go_wp2_with fail
    go_ret2
    exact ⟨lret_ib (by rw [HR.out];simp) (by rw [HR.out]),rfl⟩
   ·have b2:¬ (n:Int) < 12:=by omega
    have HR:=Lib.hid (show L6.rowsV 115 n = (0,false) from by unfold L6.rowsV;simp [a1,a2])
    clear f1 h1 f2 h2
    go_enter Tryz.func272,Tryz.ntmps272
    go_wp2_with fail
    go_ret2
    exact ⟨lret_ib (by rw [HR.out];rfl) (by rw [HR.out]),rfl⟩
 have f3:((c.toNat:Int) == 115) = false:=byte_ne 115 h3
 by_cases h4:c = 97
 ·subst h4
  by_cases a1:n < 8
  ·have b1:(n:Int) < 8:=by omega
   have hw:IntKind.i64.wrap (10+(n:Int)) = 10+(n:Int):=by rw [IntKind.wrap_i64];omega
   have HR:=Lib.hid (show L6.rowsV 97 n = (10+n,true) from by unfold L6.rowsV;simp [a1])
   clear f1 h1 f2 h2 f3 h3
   go_enter Tryz.func272,Tryz.ntmps272
   go_wp2_with fail
   go_ret2
   exact ⟨lret_ib (by rw [HR.out];simp) (by rw [HR.out]),rfl⟩
  ·have b1:¬ (n:Int) < 8:=by omega
   have HR:=Lib.hid (show L6.rowsV 97 n = (0,false) from by unfold L6.rowsV;simp [a1])
   clear f1 h1 f2 h2 f3 h3
   go_enter Tryz.func272,Tryz.ntmps272
   go_wp2_with fail
   go_ret2
   exact ⟨lret_ib (by rw [HR.out];rfl) (by rw [HR.out]),rfl⟩
 have f4:((c.toNat:Int) == 97) = false:=byte_ne 97 h4
 have HR:=Lib.hid (show L6.rowsV c n = (0,false) from by unfold L6.rowsV;simp [h1,h2,h3,h4])
 clear h1 h2 h3 h4
 go_enter Tryz.func272,Tryz.ntmps272
 go_wp2_with fail
 go_ret2
 exact ⟨lret_ib (by rw [HR.out];rfl) (by rw [HR.out]),rfl⟩
def L6.countedV (l:List UInt8):Nat × Bool:=((L6.digitsV 10 l).1,(L6.digitsV 10 l).2 && (Lib.decDigits (L6.digitsV 10 l).1 == l))
def L6.Few (l:List UInt8) (w:World):Prop:=(L6.digitsV 10 l).1 < 100 ∨ L6.Tab w
theorem lcounted_any (l:List UInt8) (w:World) (hl:l.length≤maxLen) (hf:L6.Few l w):Calls Tryz.prog 271 #[.string ⟨l.toArray⟩] w fun e w'=>e = .returned (.tuple #[.int .i64 (L6.countedV l).1,.bool (L6.countedV l).2])∧Below w.heap.size w w':=by
 have CD:=Lib.hid (show ∀ W,Calls Tryz.prog 231 #[.string ⟨l.toArray⟩,.int .i64 10] W fun e w'=>e = .returned (.tuple #[.int .i64 (L6.digitsV 10 l).1,.bool (L6.digitsV 10 l).2])∧W = w' from fun W=>ldigits_any l 10 W hl (by decide) (by decide))
 have CI:=Lib.hid (litoa_any (L6.digitsV 10 l).1 w (L6.digitsV_le 10 l) hf)
 have HV:=Lib.hid (show L6.countedV l = ((L6.digitsV 10 l).1,(L6.digitsV 10 l).2 && (Lib.decDigits (L6.digitsV 10 l).1 == l)) from rfl)
 clear hf
 generalize (L6.digitsV 10 l).1 = n at *
 generalize (L6.digitsV 10 l).2 = o at *
 cases o
 ·go_enter Tryz.func271,Tryz.ntmps271
  go_wp2_with (go_at_call 231;refine (CD.out _).mono ?_;rintro e w' ⟨rfl,rfl⟩)
  go_ret2
  exact ⟨lret_ib (by rw [HV.out]) (by rw [HV.out];rfl),Below.refl _ _⟩
 ·cases hx:(Lib.decDigits n == l)
  ·rw [hx] at HV
   go_enter Tryz.func271,Tryz.ntmps271
   go_wp2_with (first | (go_at_call 231;refine (CD.out _).mono ?_;rintro e w' ⟨rfl,rfl⟩) | (go_at_call 61;refine CI.out.mono ?_;rintro e w' ⟨rfl,hb⟩))
   go_ret2
   exact ⟨lret_ib (by rw [HV.out]) (by rw [HV.out];rfl),hb⟩
  ·rw [hx] at HV
   go_enter Tryz.func271,Tryz.ntmps271
   go_wp2_with (first | (go_at_call 231;refine (CD.out _).mono ?_;rintro e w' ⟨rfl,rfl⟩) | (go_at_call 61;refine CI.out.mono ?_;rintro e w' ⟨rfl,hb⟩))
   go_ret2
   exact ⟨lret_ib (by rw [HV.out]) (by rw [HV.out];rfl),hb⟩
def L6.zero:List UInt8:=[122,101,114,111]
def L6.regV (l:List UInt8):Nat × Bool:=
 if l = [] then (0,false) else if l = [122,101,114,111] then (0,true) else if l = [114,97] then (1,true) else if l = [115,112] then (2,true) else if l = [103,112] then (3,true) else if l = [116,112] then (4,true)
 else cond (L6.countedV l.tail).2 (L6.rowsV (l.headD 0) (L6.countedV l.tail).1) (0,false)
set_option maxRecDepth 20000 in
theorem lreg_any (l:List UInt8) (w:World) (hl:l.length≤maxLen) (hf:L6.Few l.tail w):Calls Tryz.prog 255 #[.string ⟨l.toArray⟩] w fun e w'=>e = .returned (.tuple #[.int .i64 (L6.regV l).1,.bool (L6.regV l).2])∧Below w.heap.size w w':=by
 by_cases h1:l = []
 ·subst h1
  go_enter Tryz.func255,Tryz.ntmps255
  go_wp2_with fail
  go_ret2
  exact ⟨rfl,Below.refl _ _⟩
 by_cases h2:l = [122,101,114,111]
 ·subst h2
  go_enter Tryz.func255,Tryz.ntmps255
  go_wp2_with fail
  go_ret2
  exact ⟨rfl,Below.refl _ _⟩
 by_cases h3:l = [114,97]
 ·subst h3
  go_enter Tryz.func255,Tryz.ntmps255
  go_wp2_with fail
  go_ret2
  exact ⟨rfl,Below.refl _ _⟩
 by_cases h4:l = [115,112]
 ·subst h4
  go_enter Tryz.func255,Tryz.ntmps255
  go_wp2_with fail
  go_ret2
  exact ⟨rfl,Below.refl _ _⟩
 by_cases h5:l = [103,112]
 ·subst h5
  go_enter Tryz.func255,Tryz.ntmps255
  go_wp2_with fail
  go_ret2
  exact ⟨rfl,Below.refl _ _⟩
 by_cases h6:l = [116,112]
 ·subst h6
  go_enter Tryz.func255,Tryz.ntmps255
  go_wp2_with fail
  go_ret2
  exact ⟨rfl,Below.refl _ _⟩
 have HV:=Lib.hid (show L6.regV l = cond (L6.countedV l.tail).2 (L6.rowsV (l.headD 0) (L6.countedV l.tail).1) (0,false) from by unfold L6.regV;simp only [h1,h2,h3,h4,h5,h6,if_false])
 cases l with
 | nil=>exact absurd rfl h1
 | cons c t=>
  have ht:t.length≤maxLen:=by simp only [List.length_cons] at hl;omega
  have CC:=Lib.hid (lcounted_any t w ht hf)
  have hx1:(⟨(c :: t).toArray⟩:ByteArray).extract 1 (t.length+1) = ⟨t.toArray⟩:=by rw [ext_eq];simp
  have hle:t.length+1≤9223372036854775807:=by unfold maxLen at hl;simpa using hl
  have g2:((c :: t) == [122,101,114,111]) = false:=by simpa using h2
  have g3:((c :: t) == [114,97]) = false:=by simpa using h3
  have g4:((c :: t) == [115,112]) = false:=by simpa using h4
  have g5:((c :: t) == [103,112]) = false:=by simpa using h5
  have g6:((c :: t) == [116,112]) = false:=by simpa using h6
  have HT:=Lib.hid (show (L6.countedV t).1≤4294967296 from L6.digitsV_le 10 t)
  have CR:=Lib.hid (fun W=>lrows_any c (L6.countedV t).1 W HT.out)
  clear h1 h2 h3 h4 h5 h6 hl ht hf HT
  dsimp only [List.tail_cons,List.headD_cons] at HV
  obtain ⟨n,o,hR⟩:∃ n o,L6.countedV t = (n,o):=⟨_,_,rfl⟩
  rw [hR] at HV CC CR
  clear hR
  cases o
  ·go_enter Tryz.func255,Tryz.ntmps255
   go_wp2_with (go_at_call 271;refine CC.out.mono ?_;rintro e w' ⟨rfl,hb⟩)
   go_ret2
   exact ⟨lret_ib (by rw [HV.out];rfl) (by rw [HV.out];rfl),hb⟩
  ·go_enter Tryz.func255,Tryz.ntmps255
   go_wp2_with (first | (go_at_call 271;refine CC.out.mono ?_;rintro e w' ⟨rfl,hb⟩) | (go_at_call 272;refine (CR.out _).mono ?_;rintro e w2 ⟨rfl,rfl⟩))
   go_ret2
   exact ⟨lret_ib (by rw [HV.out];rfl) (by rw [HV.out];rfl),hb⟩
end Go.Proofs.YtpcpaoeajcjoiaaGreatDoor
