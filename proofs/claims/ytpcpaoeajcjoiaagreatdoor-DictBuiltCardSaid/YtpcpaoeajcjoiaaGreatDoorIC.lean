/- Texts joined, what is not reached left out. -/
import Derived.Test.YtpcpaoeajcjoiaaGreatDoorIB
import Derived.Deep.RegionHeld3
import Derived.StillTailTactics
import Derived.Outline
import Derived.Deep.DeepCutAuto
set_option linter.unusedVariables false
set_option linter.unusedSimpArgs false
namespace Go.Proofs.YtpcpaoeajcjoiaaGreatDoor
open Go.RowKit
def Is.pieces (s:Int):List (Int × Int × Int):=
 if s = 0 then [(0,20,12)] else if s = 1 then [(12,8,12),(11,1,20),(1,10,21),(20,1,31)] else if s = 3 then [(11,1,7),(1,4,8),(5,6,25),(12,1,31)]
 else if s = 4 then [(0,5,7),(5,7,25)] else if s = 5 then [(0,5,20)] else if s = 2 ∨ s = 8 then [(0,12,20)] else []
def PieceV (w:World) (v:Value) (ps:List (Int × Int × Int)):Prop:=
 (v = .slice none 0 0∧ps = []) ∨ ∃ g,v = .slice (some ⟨g,0,none⟩) ps.length ps.length∧g < w.heap.size∧∀ j,j < ps.length →
  w.cell? ⟨g,j * 3,none⟩ = some (.int .i64 (ps.getD j (0,0,0)).1)∧w.cell? ⟨g,j * 3+1,none⟩ = some (.int .i64 (ps.getD j (0,0,0)).2.1)∧w.cell? ⟨g,j * 3+2,none⟩ = some (.int .i64 (ps.getD j (0,0,0)).2.2)
set_option maxHeartbeats 4000000 in
theorem pieces_own (s : Int) (w : World) (h : s = 0 ∨ s = 1 ∨ s = 2 ∨ s = 3 ∨ s = 4 ∨ s = 5 ∨ s = 6 ∨ s = 7 ∨ s = 8) : Calls Tryz.prog 221 #[.int .i64 s] w fun e w' => ∃ v, e = .returned v ∧ PieceV w' v (Is.pieces s) ∧ Below w.heap.size w w' := by
  rcases h with rfl | rfl | rfl | rfl | rfl | rfl | rfl | rfl | rfl
  all_goals
    go_enter Tryz.func221, Tryz.ntmps221
    go_wp2
    go_ret
    first
      | exact ⟨_, rfl, .inl ⟨rfl, by decide⟩, Below.refl _ _⟩
      | (refine ⟨_, rfl, .inr ⟨w.heap.size, rfl, by simp, ?_⟩, (Below.refl _ _).alloc (Nat.le_refl _) _⟩
         intro j hj
         have hj' : j = 0 ∨ j = 1 ∨ j = 2 ∨ j = 3 := by simp [Is.pieces] at hj; omega
         rcases hj' with rfl | rfl | rfl | rfl <;> first | (exfalso; revert hj; decide) | (refine ⟨?_, ?_, ?_⟩ <;> go_simp <;> simp [Is.pieces]))
abbrev Is.fvv (f:Is.Form):Value:=.agg #[.string ⟨f.name.toArray⟩,.int .i64 f.shape,.int .u32 f.code,.int .u32 f.three,.int .u32 f.seven]
theorem enc_bad (i:Is.Inst) (w:World) (ok:i.ok) (h:Is.legal i = false):Calls Tryz.prog 143 #[i.v] w fun e w'=>e = .returned (.tuple #[.int .u32 0,.int .i64 20])∧Below w.heap.size w w':=by
 have c0:=Lib.hid (fun w=>legal_own i w ok)
 rw [h] at c0
 obtain ⟨op,rd,rs1,rs2,imm⟩:=i
 clear ok h
 go_enter Tryz.func143,Tryz.ntmps143
 go_wp2_with fail
 refine (c0.out _).mono ?_
 rintro e w1 ⟨rfl,hb⟩
 go_wp2
 go_ret2
 exact ⟨rfl,((Below.refl _ _).alloc (Nat.le_refl _) _).trans (hb.mono (by simp))⟩
def Is.base (f:Is.Form) (rd rs1 rs2:Int):Int:=
 bits .or .u32 (bits .or .u32 (bits .or .u32 (bits .or .u32 (bits .or .u32 (f.code:Int) (rd % 4294967296 * 128 % 4294967296)) ((f.three:Int) * 4096)) (rs1 % 4294967296 * 32768 % 4294967296)) (rs2 % 4294967296 * 1048576 % 4294967296)) ((f.seven:Int) * 33554432)
theorem still_of' {P:Program} {f:FuncId} {args:Array Value} {w:World} {v:Value} (h:Calls P f args w fun e w'=>e = .returned v∧w = w'):Calls P f args w fun e w'=>e = .returned v∧w' = w:=
 h.mono fun _ _ ⟨he,hw⟩=>⟨he,hw.symm⟩
theorem ret2i {a a' b:Int} (h:a = a'):Ending.returned (.tuple #[.int .u32 a,.int .i64 b]) = .returned (.tuple #[.int .u32 a',.int .i64 b]):=by rw [h]
def Is.acc (A:Nat) (x:Int) (ps:List (Int × Int × Int)):Int:=ps.foldl (fun x p=>bits .or .u32 x (Bt.fieldV A p.1 p.2.1 * 2 ^ p.2.2.toNat % 4294967296)) x
theorem Below.setRow {B:Nat} {w w':World} (h:Below B w w') (g:Nat) (cs:Array Value) (hg:B≤g):Below B w (w'.setRow g cs):=
 h.trans ⟨rfl,rfl,rfl,by simp,fun k hk=>setRow_other w' g k cs (by omega)⟩
def Is.encV (op:Nat) (x:Int):Int:=if op = 38 then 115 else if op = 39 then 1048691 else x
def FormAt (w0:World) (B:Nat) (f:Is.Form) (s:Value) (wx:World):Prop:=
 ∃ g,s = .pointer (some ⟨g,0,none⟩)∧B≤g∧g < wx.heap.size∧(wx.cell? ⟨g,0,none⟩ = some (.string ⟨f.name.toArray⟩)∧wx.cell? ⟨g,1,none⟩ = some (.int .i64 f.shape)∧wx.cell? ⟨g,2,none⟩ = some (.int .u32 f.code)∧wx.cell? ⟨g,3,none⟩ = some (.int .u32 f.three)∧wx.cell? ⟨g,4,none⟩ = some (.int .u32 f.seven))∧Below B w0 wx
theorem Is.acc_snoc (A:Nat) (x:Int) (ps:List (Int × Int × Int)) (k:Nat) (h:k < ps.length):Is.acc A x (ps.take (k+1)) = bits .or .u32 (Is.acc A x (ps.take k)) (Bt.fieldV A (ps.getD k (0,0,0)).1 (ps.getD k (0,0,0)).2.1 * 2 ^ (ps.getD k (0,0,0)).2.2.toNat % 4294967296):=by
 rw [List.take_succ_eq_append_getElem h,Is.acc,List.foldl_append]
 simp [Is.acc,List.getD,List.getElem?_eq_getElem h]
set_option maxRecDepth 100000 in
set_option maxHeartbeats 8000000 in
theorem enc_core (op:Nat) (rd rs1 rs2 imm:Int) (w:World) (ok:(⟨op,rd,rs1,rs2,imm⟩:Is.Inst).ok) (h:Is.legal ⟨op,rd,rs1,rs2,imm⟩ = true) (hop:op < 48)
  (f:Is.Form) (hf:Is.forms.getD op default = f) (hf1:f.shape≤8) (hf2:f.code < 128) (hf3:f.three < 8) (hf4:f.seven < 128) (A:Nat) (hA:imm % 4294967296 = (A:Int)) :
  Calls Tryz.prog 143 #[(⟨op,rd,rs1,rs2,imm⟩:Is.Inst).v] w fun e w'=>e = .returned (.tuple #[.int .u32 (Is.encV op (Is.acc A (Is.base f rd rs1 rs2) (Is.pieces f.shape))),.int .i64 0])∧Below w.heap.size w w':=by
 have c0:=Lib.hid (fun w=>legal_own ⟨op,rd,rs1,rs2,imm⟩ w ok)
 rw [h] at c0
 have HA:=Lib.hid hA
 clear ok h hA
 obtain ⟨C,hF,hx⟩:∃ (C:Array Value),Hid (∀ w,Calls Tryz.prog 207 #[] w fun e w'=>e = .returned (.agg C)∧Below w.heap.size w w')∧(∀ w,(Instr.index 304 (.agg C) (.int .i64 (op:Int))).run Tryz.prog w = .ok (Is.fvv f) w):=
  ⟨Is.cells,Lib.hid fun w=>forms_any w,fun w=>by rw [index_form op hop w,hf];rfl⟩
 have cP:=Lib.hid (fun w=>pieces_own (f.shape:Int) w (by omega))
 have hn0:(0:Int)≤op:=by omega
 have hn1:(op:Int) < 48:=by omega
 clear hf hop
 have HQ:=Lib.hid (show (∀ p ∈ Is.pieces f.shape,0≤p.2.2∧p.2.2≤31)∧(Is.pieces f.shape).length≤4 by
  have:f.shape = 0 ∨ f.shape = 1 ∨ f.shape = 2 ∨ f.shape = 3 ∨ f.shape = 4 ∨ f.shape = 5 ∨ f.shape = 6 ∨ f.shape = 7 ∨ f.shape = 8:=by omega
  rcases this with h | h | h | h | h | h | h | h | h <;> rw [h] <;> decide)
 generalize Is.pieces f.shape = ps at *
 obtain ⟨fn,fs,fc,f3,f7⟩:=f
 simp only at *
 have H0:=Lib.hid (show ∀ W',Below (w.heap.size+1) (w.alloc (.cells #[.int .i64 op,.int .i64 rd,.int .i64 rs1,.int .i64 rs2,.int .i64 imm] 174)) W' →
   W'.cell? ⟨w.heap.size,0,none⟩ = some (.int .i64 op)∧W'.cell? ⟨w.heap.size,1,none⟩ = some (.int .i64 rd)∧W'.cell? ⟨w.heap.size,2,none⟩ = some (.int .i64 rs1)∧W'.cell? ⟨w.heap.size,3,none⟩ = some (.int .i64 rs2)∧W'.cell? ⟨w.heap.size,4,none⟩ = some (.int .i64 imm) from fun W' hb=>
  ⟨(hb.cell (p:=⟨w.heap.size,0,none⟩) (by simp)).trans (by go_simp),(hb.cell (p:=⟨w.heap.size,1,none⟩) (by simp)).trans (by go_simp),(hb.cell (p:=⟨w.heap.size,2,none⟩) (by simp)).trans (by go_simp),(hb.cell (p:=⟨w.heap.size,3,none⟩) (by simp)).trans (by go_simp),(hb.cell (p:=⟨w.heap.size,4,none⟩) (by simp)).trans (by go_simp)⟩)
 go_enter Tryz.func143,Tryz.ntmps143
 go_wp2_with fail
 refine (c0.out _).mono ?_
 rintro e w1 ⟨rfl,hb⟩
 simp only [World.size_alloc] at hb
 have H1:=Lib.hid hb
 have z1:=hb.size
 simp only [World.size_alloc] at z1
 clear hb
 go_upto_region 3 with fail
 go_cut [4] (fun s wx=>FormAt (w.alloc (.cells #[.int .i64 op,.int .i64 rd,.int .i64 rs1,.int .i64 rs2,.int .i64 imm] 174)) (w.heap.size+1) ⟨fn,fs,fc,f3,f7⟩ s wx)
 case first=>
  have hinfo:(Tryz.prog.info? 303).map (·.size) = some 5:=by kernel_rfl
  go_region_held3 (fun W'=>W'.cell? ⟨w.heap.size,0,none⟩ = some (.int .i64 op))
   (first | with_reducible exact hc2 | with_reducible exact ((World.cell?_setCell_far _ ⟨w1.heap.size,4,none⟩ ⟨w.heap.size,0,none⟩ _ hne).trans ((World.cell?_setCell_far _ ⟨w1.heap.size,3,none⟩ ⟨w.heap.size,0,none⟩ _ hne).trans ((World.cell?_setCell_far _ ⟨w1.heap.size,2,none⟩ ⟨w.heap.size,0,none⟩ _ hne).trans ((World.cell?_setCell_far _ ⟨w1.heap.size,1,none⟩ ⟨w.heap.size,0,none⟩ _ hne).trans ((World.cell?_setCell_far _ ⟨w1.heap.size,0,none⟩ ⟨w.heap.size,0,none⟩ _ hne).trans hc2))))) | with_reducible exact (World.cell?_alloc_past _ _ _ z2).trans hc2 | with_reducible exact (H0.out _ H1.out.drew).1 | with_reducible exact (H0.out _ (H1.out.alloc z1 _).drew).1)
   (first
    | (go_at_call 207;refine (hF.out _).mono ?_;rintro e w2 ⟨rfl,hb2'⟩;first | (have hb2:Below (w.heap.size+1) (w.alloc (.cells #[.int .i64 op,.int .i64 rd,.int .i64 rs1,.int .i64 rs2,.int .i64 imm] 174)) w2:=H1.out.drew.trans (Below.mono hb2' z1);have hc2:=(H0.out _ hb2).1;have z2:w.heap.size+1≤w2.heap.size:=(by have:=hb2.size;simpa using this)) | (have hb2:Below (w.heap.size+1) (w.alloc (.cells #[.int .i64 op,.int .i64 rd,.int .i64 rs1,.int .i64 rs2,.int .i64 imm] 174)) w2:=(H1.out.alloc z1 _).drew.trans (hb2'.mono (by simp;omega));have hc2:=(H0.out _ hb2).1;have z2:w.heap.size+1≤w2.heap.size:=(by have:=hb2.size;simpa using this);have hne:w1.heap.size ≠ w.heap.size:=(by omega);have z3:w1.heap.size < w2.heap.size:=(by have:=hb2'.size;simp at this;omega);have y0:w2.cell? ⟨w1.heap.size,0,none⟩ = some (.string ⟨#[]⟩):=(hb2'.cell (p:=⟨w1.heap.size,0,none⟩) (by simp)).trans (by go_simp);have x0:w2.frozen? ⟨w1.heap.size,0,none⟩ = false:=(hb2'.frozen (p:=⟨w1.heap.size,0,none⟩) (by simp)).trans (by go_simp);have y1:w2.cell? ⟨w1.heap.size,1,none⟩ = some (.int .i64 0):=(hb2'.cell (p:=⟨w1.heap.size,1,none⟩) (by simp)).trans (by go_simp);have x1:w2.frozen? ⟨w1.heap.size,1,none⟩ = false:=(hb2'.frozen (p:=⟨w1.heap.size,1,none⟩) (by simp)).trans (by go_simp);have y2:w2.cell? ⟨w1.heap.size,2,none⟩ = some (.int .u32 0):=(hb2'.cell (p:=⟨w1.heap.size,2,none⟩) (by simp)).trans (by go_simp);have x2:w2.frozen? ⟨w1.heap.size,2,none⟩ = false:=(hb2'.frozen (p:=⟨w1.heap.size,2,none⟩) (by simp)).trans (by go_simp);have y3:w2.cell? ⟨w1.heap.size,3,none⟩ = some (.int .u32 0):=(hb2'.cell (p:=⟨w1.heap.size,3,none⟩) (by simp)).trans (by go_simp);have x3:w2.frozen? ⟨w1.heap.size,3,none⟩ = false:=(hb2'.frozen (p:=⟨w1.heap.size,3,none⟩) (by simp)).trans (by go_simp);have y4:w2.cell? ⟨w1.heap.size,4,none⟩ = some (.int .u32 0):=(hb2'.cell (p:=⟨w1.heap.size,4,none⟩) (by simp)).trans (by go_simp);have x4:w2.frozen? ⟨w1.heap.size,4,none⟩ = false:=(hb2'.frozen (p:=⟨w1.heap.size,4,none⟩) (by simp)).trans (by go_simp))))
  all_goals
   go_wp2_with fail
   go_meet
   first
    | exact ⟨w2.heap.size,rfl,z2,by simp,⟨by go_simp,by go_simp,by go_simp,by go_simp,by go_simp⟩,hb2.alloc z2 _⟩
    | exact ⟨w1.heap.size,rfl,z1,by simpa using z3,⟨by go_simp,by go_simp,by go_simp,by go_simp,by go_simp⟩,((((hb2.setCell z1 _).setCell z1 _).setCell z1 _).setCell z1 _).setCell z1 _⟩
 case rest=>
  obtain ⟨g,rfl,hg1,hg2,⟨f0,f1,f2,f3',f4⟩,hB⟩:=hcut
  obtain ⟨q0,q1,q2,q3,q4⟩:=H0.out _ hB
  have HB:=Lib.hid hB
  have zc:=hB.size
  simp only [World.size_alloc] at zc
  clear hB
  by_cases h38:op = 38
  ·have HV:=Lib.hid (show ∀ x,Is.encV op x = 115 from fun x=>by rw [Is.encV,if_pos h38])
   have g38:((op:Int) == 38) = true:=by simp;omega
   clear h38
   go_wp2
   go_ret2
   exact ⟨ret2i (by rw [HV.out]),((Below.refl _ _).alloc (Nat.le_refl _) _).trans (HB.out.mono (by omega))⟩
  have g38:((op:Int) == 38) = false:=by simp;omega
  by_cases h39:op = 39
  ·have HV:=Lib.hid (show ∀ x,Is.encV op x = 1048691 from fun x=>by rw [Is.encV,if_neg h38,if_pos h39])
   have g39:((op:Int) == 39) = true:=by simp;omega
   clear h38 h39
   go_wp2
   go_ret2
   exact ⟨ret2i (by rw [HV.out]),((Below.refl _ _).alloc (Nat.le_refl _) _).trans (HB.out.mono (by omega))⟩
  have g39:((op:Int) == 39) = false:=by simp;omega
  have HV:=Lib.hid (show ∀ x,Is.encV op x = x from fun x=>by rw [Is.encV,if_neg h38,if_neg h39])
  clear h38 h39
  go_wp2_with fail
  refine (cP.out _).mono ?_
  rintro e w3 ⟨v,rfl,hP,hb3⟩
  have HB3:=Lib.hid (HB.out.trans (hb3.mono zc))
  obtain ⟨q0',q1',q2',q3'',q4'⟩:=H0.out _ HB3.out
  have HI:=Lib.hid (show ∀ W',Below w3.heap.size w3 W'→W'.cell? ⟨w.heap.size,4,none⟩ = some (.int .i64 imm) from fun W' hb=>(hb.cell (p:=⟨w.heap.size,4,none⟩) (by have:=HB3.out.size;simp at this;show w.heap.size < _;omega)).trans q4')
  clear hb3 q0 q1 q2 q3 q4 q0' q1' q2' q3'' q4' f0 f1 f2 f3' f4
  have hAlt:A < 4294967296:=by have:=HA.out;omega
  have HX:=Lib.hid (show Is.base ⟨fn,fs,fc,f3,f7⟩ rd rs1 rs2 = bits .or .u32 (bits .or .u32 (bits .or .u32 (bits .or .u32 (bits .or .u32 (fc:Int) (rd % 4294967296 * 128 % 4294967296)) ((f3:Int) * 4096)) (rs1 % 4294967296 * 32768 % 4294967296)) (rs2 % 4294967296 * 1048576 % 4294967296)) ((f7:Int) * 33554432) from rfl)
  generalize bits .or .u32 (bits .or .u32 (bits .or .u32 (bits .or .u32 (bits .or .u32 (fc:Int) (rd % 4294967296 * 128 % 4294967296)) ((f3:Int) * 4096)) (rs1 % 4294967296 * 32768 % 4294967296)) (rs2 % 4294967296 * 1048576 % 4294967296)) ((f7:Int) * 33554432) = X at *
  have HBw:=Lib.hid (show Below w.heap.size w w3 from ((Below.refl _ _).alloc (Nat.le_refl _) _).trans (HB3.out.mono (by omega)))
  have hps:=HQ.out.2
  rcases hP with ⟨rfl,rfl⟩ | ⟨g3,rfl,hg3,hP⟩
  ·go_wp2_with fail
   go_loopw [5,50] (fun v i wr=>i = .int .i64 0∧v = .int .u32 X∧wr = w3) (fun _ i _=>(intOf i).toNat)
   case atStart=>exact ⟨rfl,rfl,rfl⟩
   case round=>
    obtain ⟨rfl,rfl,rfl⟩:=hrel
    go_wp2
    go_ret2
    exact ⟨ret2i (by rw [HV.out,HX.out];rfl),HBw.out⟩
  ·have HP:=Lib.hid hP
   clear hP
   go_wp2_with fail
   go_loopw [5,50] (fun v i wr=>∃ k:Nat,k≤ps.length∧i = .int .i64 k∧v = .int .u32 (Is.acc A X (ps.take k))∧Below w3.heap.size w3 wr) (fun _ i _=>ps.length - (intOf i).toNat)
   case atStart=>exact ⟨0,Nat.zero_le _,rfl,rfl,Below.refl _ _⟩
   case round=>
    obtain ⟨k,hk,rfl,rfl,hbr⟩:=hrel
    by_cases hlt:k < ps.length
    ·have d0:=(hbr.cell (p:=⟨g3,k * 3,none⟩) hg3).trans (HP.out k hlt).1
     have d1:=(hbr.cell (p:=⟨g3,k * 3+1,none⟩) hg3).trans (HP.out k hlt).2.1
     have d2:=(hbr.cell (p:=⟨g3,k * 3+2,none⟩) hg3).trans (HP.out k hlt).2.2
     have HS:=Lib.hid (Is.acc_snoc A X ps k hlt)
     have hmem:ps.getD k (0,0,0) ∈ ps:=by simp [List.getD,List.getElem?_eq_getElem hlt]
     have hat:=HQ.out.1 _ hmem
     clear hmem
     have di:=HI.out _ hbr
     have HBr:=Lib.hid hbr
     have zr:=hbr.size
     clear hbr
     generalize hpp:ps.getD k (0,0,0) = pp at *
     clear hpp
     obtain ⟨pf,pn,pa⟩:=pp
     dsimp only at d0 d1 d2 HS hat
     have cF:=Lib.hid (fun w=>field_v A pf pn w hAlt)
     generalize Bt.fieldV A pf pn = FV at *
     generalize Is.acc A X (ps.take k) = V at *
     have hA:=HA.out
     have hpw:IntKind.u64.wrap pa = pa:=by rw [IntKind.wrap_u64];omega
     obtain ⟨hat0,hat1⟩:=hat
     go_wp2_with fail
     have hAu:IntKind.u32.wrap imm = (A:Int):=by rw [IntKind.wrap_u32];exact hA
     have di':(wr.alloc (.cells #[.int .i64 pf,.int .i64 pn,.int .i64 pa] 316)).cell? ⟨w.heap.size,4,none⟩ = some (.int .i64 imm):=(World.cell?_alloc_past _ _ _ (World.block_lt_of_cell? _ _ di)).trans di
     have hd:∀ (W:World),({ W with drawn:=W.drawn+1 }:World) = W.drew:=fun _=>rfl
     refine wp_region_still_lit (by kernel_rfl) (by kernel_rfl) ?_
     rw [hd]
     repeat ((with_reducible refine wpStill_step (fun K hK=>?_));go_simp;(try go_bits);(with_reducible refine hK _ ?_);clear hK K)
     still_call (still_of' (cF.out _))
     repeat ((with_reducible refine wpStill_step (fun K hK=>?_));go_simp;(try go_bits);(with_reducible refine hK _ ?_);clear hK K)
     refine wpStill_nil ?_
     clear hd di'
     go_wp2
     go_roundw
     case rel=>exact ⟨k+1,by omega,by go_num,by rw [HS.out],(HBr.out.alloc HBr.out.size _).drew⟩
     case measure=>simp [intOf];omega
    ·rw [List.take_of_length_le (by omega)]
     have HBr:=Lib.hid hbr
     clear hbr
     go_wp2
     go_ret2
     exact ⟨ret2i (by rw [HV.out,HX.out]),HBw.out.trans (HBr.out.mono HBw.out.size)⟩
def Is.enc (i:Is.Inst):Int × Int:=
 if Is.legal i then (Is.encV i.op.toNat (Is.acc (i.imm % 4294967296).toNat (Is.base (Is.forms.getD i.op.toNat default) i.rd i.rs1 i.rs2) (Is.pieces (Is.forms.getD i.op.toNat default).shape)),0) else (0,20)
theorem Is.form_bd (n:Nat) (h:n < 48):(Is.forms.getD n default).shape≤8∧(Is.forms.getD n default).code < 128∧(Is.forms.getD n default).three < 8∧(Is.forms.getD n default).seven < 128:=by
 have:∀ k:Fin 48,(Is.forms.getD k.val default).shape≤8∧(Is.forms.getD k.val default).code < 128∧(Is.forms.getD k.val default).three < 8∧(Is.forms.getD k.val default).seven < 128:=by decide
 exact this ⟨n,h⟩
theorem Is.legal_op {i:Is.Inst} (h:Is.legal i = true):0≤i.op∧i.op < 48:=by
 simp only [Is.legal,Bool.and_eq_true,decide_eq_true_eq] at h
 have h0:=h.1
 unfold Is.shape at h0
 split at h0
 ·omega
 ·omega
theorem enc_own (i:Is.Inst) (w:World) (ok:i.ok):Calls Tryz.prog 143 #[i.v] w fun e w'=>e = .returned (.tuple #[.int .u32 (Is.enc i).1,.int .i64 (Is.enc i).2])∧Below w.heap.size w w':=by
 unfold Is.enc
 cases h:Is.legal i
 ·exact enc_bad i w ok h
 ·have hop:=Is.legal_op h
  obtain ⟨op,rd,rs1,rs2,imm⟩:=i
  obtain ⟨n,rfl⟩:=Int.eq_ofNat_of_zero_le hop.1
  have hb:=Is.form_bd n (by have h48:(n:Int) < 48:=hop.2;omega)
  exact enc_core n rd rs1 rs2 imm w ok h (by have h48:(n:Int) < 48:=hop.2;omega) _ rfl hb.1 hb.2.1 hb.2.2.1 hb.2.2.2 (imm % 4294967296).toNat (by omega)
end Go.Proofs.YtpcpaoeajcjoiaaGreatDoor
