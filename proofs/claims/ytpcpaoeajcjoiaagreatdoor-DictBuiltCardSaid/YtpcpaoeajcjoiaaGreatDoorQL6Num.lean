/- Texts joined, what is not reached left out. -/
import Derived.Test.YtpcpaoeajcjoiaaGreatDoorKN
set_option linter.unusedVariables false
set_option linter.unusedSimpArgs false
namespace Go.Proofs.YtpcpaoeajcjoiaaGreatDoor
open Go.RowKit Kit
def L6.dig (c:UInt8):Option Nat:=if 48≤c.toNat∧c.toNat≤57 then some (c.toNat - 48) else if 97≤c.toNat∧c.toNat≤102 then some (c.toNat - 87) else none
def L6.hex:List UInt8:=[48,49,50,51,52,53,54,55,56,57,97,98,99,100,101,102]
def L6.digI (c:UInt8):Int:=match L6.dig c with | none=>-1 | some d=>d
theorem L6.dig_index (c:UInt8):Lib.indexByte L6.hex c = L6.digI c:=by
 have h:∀ n,n < 256→Lib.indexByte L6.hex (UInt8.ofNat n) = L6.digI (UInt8.ofNat n):=by decide +kernel
 have:=h c.toNat c.toNat_lt
 rwa [show UInt8.ofNat c.toNat = c from by simp] at this
theorem L6.dig_lt {c:UInt8} {d:Nat} (h:L6.dig c = some d):d < 16:=by
 unfold L6.dig at h
 split at h
 ·cases h;omega
 ·split at h
  ·cases h;omega
  ·cases h
def L6.digits (base:Nat):Nat→List UInt8→Option Nat
 | n,[]=>some n
 | n,c :: t=>match L6.dig c with
  | none=>none
  | some d=>if base≤d then none else if 4294967296 < n * base+d then none else L6.digits base (n * base+d) t
theorem L6.digits_le {base:Nat}:∀ {l:List UInt8} {n m:Nat},n≤4294967296→L6.digits base n l = some m→m≤4294967296
 | [],n,m,hn,h=>by cases h;exact hn
 | c :: t,n,m,hn,h=>by
  unfold L6.digits at h
  cases hd:L6.dig c with
  | none=>rw [hd] at h;cases h
  | some d=>
   rw [hd] at h
   simp only at h
   split at h
   ·cases h
   ·split at h
    ·cases h
    ·exact L6.digits_le (by omega) h
def L6.digitsV (base:Nat) (l:List UInt8):Nat × Bool:=match L6.digits base 0 l with | none=>(0,false) | some n=>(n,!l.isEmpty)
theorem L6.digitsV_le (base:Nat) (l:List UInt8):(L6.digitsV base l).1≤4294967296:=by
 unfold L6.digitsV
 cases h:L6.digits base 0 l with
 | none=>simp
 | some n=>exact L6.digits_le (by omega) h
theorem lret_ib {a b:Int} {x y:Bool} (h1:a = b) (h2:x = y):Ending.returned (.tuple #[.int .i64 a,.bool x]) = .returned (.tuple #[.int .i64 b,.bool y]):=by rw [h1,h2]
set_option maxRecDepth 20000 in
theorem ldigits_any (l:List UInt8) (base:Nat) (w:World) (hl:l.length≤maxLen) (hb0:2≤base) (hb1:base≤16) :
  Calls Tryz.prog 231 #[.string ⟨l.toArray⟩,.int .i64 (base:Int)] w fun e w'=>e = .returned (.tuple #[.int .i64 (L6.digitsV base l).1,.bool (L6.digitsV base l).2])∧w = w':=by
 unfold maxLen at hl
 have cI:=Lib.hid (fun (k:Nat) (hk:k < l.length) W=>Tryz.strings_IndexByte ⟨L6.hex.toArray⟩ (((⟨l.toArray⟩:ByteArray)[k]'hk).toNat:Int) W)
 have HG:=Lib.hid (fun k (hk:k < l.length)=>L6.get_data l k hk)
 have HB:=Lib.hid (And.intro hb0 hb1)
 have HL:=Lib.hid hl
 clear hb0 hb1 hl
 go_enter Tryz.func231,Tryz.ntmps231
 go_wp2_with fail
 go_loop [6,7] (fun a i=>∃ n k:Nat,a = .int .i64 (n:Int)∧i = .int .i64 (k:Int)∧k≤l.length∧n≤4294967296∧L6.digits base 0 l = L6.digits base n (l.drop k)) (fun _ i=>l.length - (intOf i).toNat)
 case atStart=>exact ⟨0,0,rfl,rfl,Nat.zero_le _,by omega,rfl⟩
 case round=>
  obtain ⟨n,k,rfl,rfl,hk,hn,hd⟩:=hrel
  have HD:=Lib.hid hd
  have HN:=Lib.hid hn
  clear hd hn
  by_cases hlt:k < l.length
  ·have hlt':(k:Int) < l.length:=by omega
   have hw1:IntKind.i64.wrap ((k:Int)+1) = (k:Int)+1:=by have:=HL.out;rw [IntKind.wrap_i64];omega
   have hcn:((((⟨l.toArray⟩:ByteArray)[k]'hlt).toNat:Int)).toNat.toUInt8 = l.getD k 0:=by
    rw [HG.out k hlt];simp
   have CI:∀ W,Calls Tryz.prog 118 #[.string ⟨L6.hex.toArray⟩,.int .u8 (((⟨l.toArray⟩:ByteArray)[k]'hlt).toNat:Int)] W fun e w'=>e = .returned (.int .i64 (L6.digI (l.getD k 0)))∧w' = W:=fun W=>by
    have:=cI.out k hlt W
    rw [hcn] at this
    rw [← L6.dig_index]
    exact this
   have HDK:=Lib.hid (HD.out.trans (by rw [List.drop_eq_getElem_cons hlt,show l[k] = l.getD k 0 from by simp [List.getD,hlt]]))
   have HLT:=Lib.hid hlt
   have CIH:=Lib.hid CI
   clear CI hcn
   generalize l.getD k 0 = c at CIH HDK
   cases hdc:L6.dig c with
   | none=>
    have HR:=Lib.hid (show L6.digitsV base l = (0,false) from by unfold L6.digitsV;rw [HDK.out];unfold L6.digits;rw [hdc])
    have CN:=Lib.hid (fun W=>(CIH.out W).mono (R':=fun e w'=>e = .returned (.int .i64 (-1))∧w' = W) (fun e w' hh=>by rw [show L6.digI c = -1 from by unfold L6.digI;rw [hdc]] at hh;exact hh))
    clear hdc CIH
    go_wp2_with (go_at_call 118;refine (CN.out _).mono ?_;rintro e w' ⟨rfl,rfl⟩)
    go_ret2
    exact ⟨lret_ib (by rw [HR.out];rfl) (by rw [HR.out]),rfl⟩
   | some d=>
    have CS:=Lib.hid (fun W=>(CIH.out W).mono (R':=fun e w'=>e = .returned (.int .i64 (d:Int))∧w' = W) (fun e w' hh=>by rw [show L6.digI c = d from by unfold L6.digI;rw [hdc]] at hh;exact hh))
    have hd16:=L6.dig_lt hdc
    have hneg:¬ ((d:Int) < 0):=by omega
    by_cases hbd:base≤d
    ·have hbd':(base:Int)≤(d:Int):=by omega
     have HR:=Lib.hid (show L6.digitsV base l = (0,false) from by unfold L6.digitsV;rw [HDK.out];unfold L6.digits;rw [hdc];simp only;rw [if_pos hbd])
     clear hdc CIH hbd hd16
     go_wp2_with (go_at_call 118;refine (CS.out _).mono ?_;rintro e w' ⟨rfl,rfl⟩)
     go_ret2
     exact ⟨lret_ib (by rw [HR.out];rfl) (by rw [HR.out]),rfl⟩
    ·have hbd':¬ (base:Int)≤(d:Int):=by omega
     have hmul:=Nat.mul_le_mul HN.out HB.out.2
     obtain ⟨p,hp⟩:∃ p,n * base = p:=⟨_,rfl⟩
     rw [hp] at hmul
     have hwm:IntKind.i64.wrap ((n:Int) * (base:Int)) = (p:Int):=by
      rw [show (n:Int) * (base:Int) = ((n * base:Nat):Int) from by simp,hp,IntKind.wrap_i64];omega
     have hws:IntKind.i64.wrap ((p:Int)+(d:Int)) = (p:Int)+(d:Int):=by rw [IntKind.wrap_i64];omega
     have HDS:=Lib.hid (HDK.out.trans (show L6.digits base n (c :: List.drop (k+1) l) = if 4294967296 < p+d then none else L6.digits base (p+d) (l.drop (k+1)) from by conv=>lhs;unfold L6.digits;rw [hdc];simp only;rw [if_neg hbd,hp]))
     clear hmul
     by_cases hbig:4294967296 < p+d
     ·have hbig':(4294967296:Int) < (p:Int)+(d:Int):=by omega
      have HR:=Lib.hid (show L6.digitsV base l = (0,false) from by unfold L6.digitsV;rw [HDS.out,if_pos hbig])
      clear hdc CIH hbd hd16 hbig hp
      go_wp2_with (go_at_call 118;refine (CS.out _).mono ?_;rintro e w' ⟨rfl,rfl⟩)
      go_ret2
      exact ⟨lret_ib (by rw [HR.out];rfl) (by rw [HR.out]),rfl⟩
     ·have hbig':¬ (4294967296:Int) < (p:Int)+(d:Int):=by omega
      have HDN:=Lib.hid (show L6.digits base 0 l = L6.digits base (p+d) (l.drop (k+1)) from by rw [HDS.out,if_neg hbig])
      have HBG:=Lib.hid (show p+d≤4294967296 from by omega)
      clear hdc CIH hbd hd16 hbig hp
      go_wp2_with (go_at_call 118;refine (CS.out _).mono ?_;rintro e w' ⟨rfl,rfl⟩)
      go_round
      case rel=>exact ⟨p+d,k+1,by simp,by simp,HLT.out,HBG.out,HDN.out⟩
      case measure=>simp [intOf];omega
  ·have hle:(l.length:Int)≤(k:Int):=by omega
   have HR:=Lib.hid (show L6.digitsV base l = (n,!l.isEmpty) from by unfold L6.digitsV;rw [HD.out,List.drop_of_length_le (by omega)];rfl)
   go_wp2_with fail
   go_ret2
   refine ⟨lret_ib (by rw [HR.out]) ?_,rfl⟩
   rw [HR.out]
end Go.Proofs.YtpcpaoeajcjoiaaGreatDoor
