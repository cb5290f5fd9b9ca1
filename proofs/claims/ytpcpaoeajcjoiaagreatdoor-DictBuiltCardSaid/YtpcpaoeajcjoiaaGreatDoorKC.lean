/- Texts joined, what is not reached left out. -/
import Derived.Test.YtpcpaoeajcjoiaaGreatDoorKW
import Derived.Test.YtpcpaoeajcjoiaaGreatDoorQKitF
set_option linter.unusedVariables false
set_option linter.unusedSimpArgs false
namespace Go.Proofs.YtpcpaoeajcjoiaaGreatDoor
open Go.RowKit Kit
def L6.piece:List UInt8→List UInt8 × List UInt8
 | []=>([],[])
 | c :: t=>if c = 10 then ([10],t) else (c :: (L6.piece t).1,(L6.piece t).2)
theorem L6.piece_app:∀ l,(L6.piece l).1 ++ (L6.piece l).2 = l
 | []=>rfl
 | c :: t=>by
  unfold L6.piece
  split
  ·rename_i h;rw [h];rfl
  ·simp [L6.piece_app t]
theorem L6.piece_pos:∀ {l:List UInt8},l ≠ []→0 < (L6.piece l).1.length
 | [],h=>absurd rfl h
 | c :: t,_=>by unfold L6.piece;split <;> simp
theorem L6.piece_left {l:List UInt8} (h:l ≠ []):(L6.piece l).2.length < l.length:=by
 have h1:=congrArg List.length (L6.piece_app l)
 have h2:=L6.piece_pos h
 simp only [List.length_append] at h1
 omega
theorem L6.piece_none:∀ {l:List UInt8},Lib.indexByte l 10 = -1→L6.piece l = (l,[])
 | [],_=>rfl
 | c :: t,h=>by
  unfold Lib.indexByte at h
  by_cases hc:c = 10
  ·subst hc;simp at h
  ·have hc':(c == 10) = false:=by simpa using hc
   rw [hc'] at h
   simp only [Bool.false_eq_true,if_false] at h
   by_cases ht:Lib.indexByte t 10 = -1
   ·unfold L6.piece;rw [if_neg hc,L6.piece_none ht]
   ·have ht':(Lib.indexByte t 10 == -1) = false:=by simpa using ht
    rw [ht'] at h
    have:=Lib.indexByte_ge t 10
    simp only [Bool.false_eq_true,if_false] at h
    omega
theorem L6.piece_some:∀ {l:List UInt8} (i:Nat),Lib.indexByte l 10 = (i:Int)→i < l.length∧L6.piece l = (l.take (i+1),l.drop (i+1))
 | [],i,h=>by unfold Lib.indexByte at h;omega
 | c :: t,i,h=>by
  unfold Lib.indexByte at h
  by_cases hc:c = 10
  ·subst hc
   simp at h
   have hi:i = 0:=by omega
   subst hi
   exact ⟨by simp,by unfold L6.piece;simp⟩
  ·have hc':(c == 10) = false:=by simpa using hc
   rw [hc'] at h
   simp only [Bool.false_eq_true,if_false] at h
   by_cases ht:Lib.indexByte t 10 = -1
   ·rw [ht] at h;simp at h
   ·have ht':(Lib.indexByte t 10 == -1) = false:=by simpa using ht
    rw [ht'] at h
    have h0:=Lib.indexByte_ge t 10
    simp only [Bool.false_eq_true,if_false] at h
    obtain ⟨j,rfl⟩:∃ j,i = j+1:=⟨i - 1,by omega⟩
    obtain ⟨h1,h2⟩:=L6.piece_some (l:=t) j (by omega)
    refine ⟨by simp;omega,?_⟩
    unfold L6.piece
    rw [if_neg hc,h2]
    simp
def L6.trim (l:List UInt8):List UInt8:=Lib.trimSuffix l [10]
theorem L6.trim_eq (l:List UInt8):L6.trim l = if (!l.isEmpty && l.getLastD 0 == 10) = true then l.dropLast else l:=by
 unfold L6.trim Lib.trimSuffix
 rw [L6.suffix_one,List.dropLast_eq_take]
 rfl
theorem L6.trim_cons {c:UInt8} {p:List UInt8} (h:p ≠ []):L6.trim (c :: p) = c :: L6.trim p:=by
 rw [L6.trim_eq,L6.trim_eq]
 cases p with
 | nil=>exact absurd rfl h
 | cons d q=>
  have e:(c :: d :: q).getLastD 0 = (d :: q).getLastD 0:=by simp [List.getLastD]
  rw [e]
  simp only [List.isEmpty_cons,Bool.not_false,Bool.true_and]
  split <;> simp
theorem L6.trim_len (l:List UInt8):(L6.trim l).length≤l.length:=by
 rw [L6.trim_eq];split <;> simp
theorem L6.split_cons (c:UInt8) (t:List UInt8):L6.split (c :: t) = if c = 10 then [] :: L6.split t else match L6.split t with
  | []=>[[c]]
  | a :: r=>(c :: a) :: r:=rfl
theorem L6.piece_cons (c:UInt8) (t:List UInt8):L6.piece (c :: t) = if c = 10 then ([10],t) else (c :: (L6.piece t).1,(L6.piece t).2):=rfl
theorem L6.split_piece:∀ {l:List UInt8},l ≠ []→L6.split l = L6.trim (L6.piece l).1 :: L6.split (L6.piece l).2
 | [],h=>absurd rfl h
 | c :: t,_=>by
  rw [L6.split_cons,L6.piece_cons]
  by_cases hc:c = 10
  ·subst hc;simp [L6.trim_eq]
  ·rw [if_neg hc,if_neg hc]
   cases t with
   | nil=>simp [L6.split,L6.piece,L6.trim_eq,hc]
   | cons d q=>
    have h1:=L6.split_piece (l:=d :: q) (by simp)
    have h2:=L6.piece_pos (l:=d :: q) (by simp)
    rw [h1,L6.trim_cons (by intro e;rw [e] at h2;simp at h2)]
theorem L6.split_len:∀ (l:List UInt8),(L6.split l).length = l.count 10+(if (!l.isEmpty && !(l.getLastD 0 == 10)) = true then 1 else 0)
 | []=>rfl
 | c :: t=>by
  rw [L6.split_cons]
  have ih:=L6.split_len t
  cases t with
  | nil=>by_cases hc:c = 10 <;> simp [hc,L6.split]
  | cons d q=>
   have e:(c :: d :: q).getLastD 0 = (d :: q).getLastD 0:=by simp [List.getLastD]
   rw [e]
   simp only [List.isEmpty_cons,Bool.not_false,Bool.true_and] at ih ⊢
   by_cases hc:c = 10
   ·subst hc
    rw [if_pos rfl,List.length_cons,ih,List.count_cons_self]
    omega
   ·rw [if_neg hc,List.count_cons_of_ne hc]
    rw [← ih,L6.split_piece (l:=d :: q) (by simp)]
    simp
def L6.parseL:Nat→List L6.Line→List (List UInt8)→List L6.Line × Nat × Nat
 | _,acc,[]=>(acc,0,0)
 | n,acc,t :: r=>if 256 < t.length then ([],n+1,6) else match L6.wordsOf t with
  | none=>([],n+1,40)
  | some ws=>L6.parseL (n+1) (acc ++ [L6.line ws]) r
def L6.parse (s:List UInt8):List L6.Line × Nat × Nat:=
 if 32768 < (L6.split s).length then ([],0,6) else L6.parseL 0 [] (L6.split s)
end Go.Proofs.YtpcpaoeajcjoiaaGreatDoor
namespace Go.Proofs.YtpcpaoeajcjoiaaGreatDoor
open Go.RowKit Go.Shelf Kit
attribute [local go_sem] Oper.semAt_some
def L6.bx (s:List UInt8):Array Value:=#[.string ⟨s.toArray⟩]
theorem lines1_measure {w w':World} {bs:Nat} {a b:List UInt8} (h:w.cell? ⟨bs,0,none⟩ = some (.string ⟨a.toArray⟩)) (h':w'.cell? ⟨bs,0,none⟩ = (L6.bx b)[0]?) (hl:b.length < a.length) :
  (match w'.cell? ⟨bs,0,none⟩ with | some (.string t)=>t.size | _=>0) < (match w.cell? ⟨bs,0,none⟩ with | some (.string t)=>t.size | _=>0):=by
 rw [h',h]
 simpa [L6.bx,ByteArray.size] using hl
set_option maxRecDepth 100000 in
set_option maxHeartbeats 1000000 in
theorem lines1_in (n l bs : Nat) (hn : 1 ≤ n) (J : List UInt8 → World → Prop) (Jx : World → Prop)
    (hJs : ∀ s W u, J s W → J s (W.setCell ⟨bs, 0, none⟩ u)) (hJd : ∀ s W, J s W → J s W.drew)
    (s0 : List UInt8) (hs0 : s0.length ≤ 1000000000) (hY : ∀ s W, s ≠ [] → s.length ≤ s0.length → J s W → Bk W bs 9 (L6.bx (L6.piece s).2) → YieldAt Fence.wide (n - 1) Tryz.prog l #[.string ⟨(L6.piece s).1.toArray⟩] W fun e W' =>
      (e = .returned (.bool true) ∧ J (L6.piece s).2 W' ∧ Bk W' bs 9 (L6.bx (L6.piece s).2)) ∨ (e = .returned (.bool false) ∧ Jx W'))
    (W : World) (h0 : J s0 W) (hb : Bk W bs 9 (L6.bx s0)) :
    CallsIn Fence.wide n Tryz.prog 117 #[.func (.yield l) #[] #[], .pointer (some ⟨bs, 0, none⟩)] W fun e W' => (∃ v, e = .returned v) ∧ (J [] W' ∨ Jx W') := by
  have HS0 := Lib.hid hs0
  clear hs0
  refine callsIn_of_wp Tryz.func117 rfl trivial ?_ rfl
  simp only [Tryz.ntmps117, List.size_toArray, List.length_cons, List.length_nil, Nat.reduceAdd, Nat.reduceSub, Array.replicate_succ, Array.replicate_zero, List.push_toArray, List.append_toArray, List.nil_append, List.cons_append]
  have HJ0 := Lib.hid h0
  have HB0 := Lib.hid hb
  have HY := Lib.hid hY
  have HJS := Lib.hid hJs
  have HJD := Lib.hid hJd
  clear h0 hb hY hJs hJd
  gi_wp2
  gi_loopw [] (fun wr => ∃ s, J s wr ∧ Bk wr bs 9 (L6.bx s) ∧ s.length ≤ s0.length) (fun wr => match wr.cell? ⟨bs, 0, none⟩ with | some (.string t) => t.size | _ => 0)
  case atStart => exact ⟨s0, HJ0.out, HB0.out, Nat.le_refl _⟩
  case round =>
    obtain ⟨s, hJ, hbk, hle⟩ := hrel
    have HJ := Lib.hid hJ
    have HBK := Lib.hid hbk
    have HLE := Lib.hid hle
    clear hJ hle
    have hc := hbk.cell 0
    have hf := hbk.free 0
    simp only [L6.bx, List.getElem?_toArray, List.getElem?_cons_zero] at hc
    clear hbk
    by_cases he : s = []
    · subst he
      gi_wp2
      go_end0
      exact ⟨⟨_, rfl⟩, .inl HJ.out⟩
    · have HE := Lib.hid he
      have hpos : 0 < s.length := List.length_pos_iff.2 he
      have hpos' : (0 : Int) < s.length := by omega
      have CI := fun W => Tryz.strings_IndexByte ⟨s.toArray⟩ 10 W
      rw [show Int.toNat 10 = 10 from rfl] at CI
      simp only [Nat.toUInt8_eq] at CI
      have hleft := L6.piece_left he
      by_cases hi : Lib.indexByte s 10 = -1
      · have hp := L6.piece_none hi
        have CI := Lib.hid (fun W => (CI W).mono (R' := fun e w' => e = .returned (.int .i64 (-1)) ∧ W = w') (fun e w' h => ⟨by rw [h.1]; exact congrArg (fun z => Ending.returned (.int .i64 z)) hi, h.2.symm⟩))
        obtain ⟨fn, tmps, assign, body, hy, hR⟩ := HY.out s (wr.setCell ⟨bs, 0, none⟩ (.string ⟨#[]⟩)) he HLE.out (HJS.out _ _ _ HJ.out) (by have := HBK.out.set 0 (.string ⟨#[]⟩); rw [hp]; simpa [L6.bx] using this)
        rw [hp] at hy hR
        have HI := Lib.hid hi
        have HP := Lib.hid hp
        clear he hi hp
        gi_wp2_with (refine ⟨trivial, ?_⟩; gi_at_call 118; refine (callsIn_wide.2 (CI.out _)).mono ?_; rintro e w' ⟨rfl, rfl⟩)
        refine hR.mono ?_
        rintro e W3 (⟨rfl, hJ3, hk3⟩ | ⟨rfl, hJx3⟩)
        · gi_wp2
          go_roundw
          case rel => exact ⟨[], hJ3, hk3, by simp⟩
          case measure => exact lines1_measure hc (hk3.cell 0) (by simpa using hpos)
        · gi_wp2
          refine bodyPost_ret (results_none rfl _ _ _) rfl ?_
          exact ⟨⟨_, rfl⟩, .inr hJx3⟩
      · obtain ⟨k, hk⟩ : ∃ k : Nat, Lib.indexByte s 10 = (k : Int) := ⟨(Lib.indexByte s 10).toNat, by have := Lib.indexByte_ge s 10; omega⟩
        obtain ⟨hk1, hp⟩ := L6.piece_some k hk
        have CI := Lib.hid (fun W => (CI W).mono (R' := fun e w' => e = .returned (.int .i64 (k : Int)) ∧ W = w') (fun e w' h => ⟨by rw [h.1]; exact congrArg (fun z => Ending.returned (.int .i64 z)) hk, h.2.symm⟩))
        obtain ⟨fn, tmps, assign, body, hy, hR⟩ := HY.out s (wr.setCell ⟨bs, 0, none⟩ (.string ⟨(s.drop (k + 1)).toArray⟩)).drew he HLE.out (HJD.out _ _ (HJS.out _ _ _ HJ.out)) (by have := (HBK.out.set 0 (.string ⟨(s.drop (k + 1)).toArray⟩)).kept (Below.refl _ _).drew; rw [hp]; simpa [L6.bx] using this)
        rw [hp] at hy hR
        have HI := Lib.hid hk
        have HP := Lib.hid hp
        clear he hi hp hk
        have mixed : Tryz.prog.follows .mixedOrders = true := by kernel_rfl
        have hsl := HLE.out
        have hsl0 := HS0.out
        have hw : IntKind.i64.wrap ((k : Int) + 1) = (k : Int) + 1 := by go_bits; exact trivial
        have hi0 : (0 : Int) ≤ (k : Int) + 1 := by omega
        have hi1 : (k : Int) + 1 ≤ (s.length : Int) := by omega
        have hi2 : k + 1 ≤ s.length := by omega
        have hi3 : ((k : Int) + 1).toNat = k + 1 := by omega
        clear hsl hsl0
        have HX1 := Lib.hid (show (⟨s.toArray⟩ : ByteArray).extract 0 (k + 1) = ⟨(s.take (k + 1)).toArray⟩ by rw [ext_eq]; simp)
        have HX2 := Lib.hid (show (⟨s.toArray⟩ : ByteArray).extract (k + 1) s.length = ⟨(s.drop (k + 1)).toArray⟩ by rw [ext_eq, List.take_of_length_le (by simp)])
        gi_wp2_with (refine ⟨trivial, ?_⟩; gi_at_call 118; refine (callsIn_wide.2 (CI.out _)).mono ?_; rintro e w' ⟨rfl, rfl⟩)
        gi_region_with_o (fail)
        all_goals rw [HX1.out, HX2.out]
        all_goals gi_wp2
        all_goals refine hR.mono ?_
        all_goals rintro e W3 (⟨rfl, hJ3, hk3⟩ | ⟨rfl, hJx3⟩)
        all_goals gi_wp2
        all_goals first
          | (refine bodyPost_ret (results_none rfl _ _ _) rfl ?_; exact ⟨⟨_, rfl⟩, .inr hJx3⟩)
          | (go_roundw
             case rel => exact ⟨_, hJ3, hk3, by have := HLE.out; simp; omega⟩
             case measure => exact lines1_measure hc (hk3.cell 0) (by simp; omega))
set_option linter.unusedSectionVars false
attribute [local go_sem] Oper.semAt_some
theorem lines_in (n:Nat) (s:List UInt8) (w:World) :
  CallsIn Fence.wide n Tryz.prog 62 #[.string ⟨s.toArray⟩] w fun e w'=>e = .returned (.func (.func 117) #[] #[.pointer (some ⟨w.heap.size,0,none⟩)])∧w.alloc (.cells (L6.bx s) 9) = w':=by
 refine callsIn_of_wp Tryz.func62 rfl trivial ?_ rfl
 simp only [Tryz.ntmps62,List.size_toArray,List.length_cons,List.length_nil,Nat.reduceAdd,Nat.reduceSub,Array.replicate_succ,Array.replicate_zero,List.push_toArray,List.append_toArray,List.nil_append,List.cons_append]
 gi_wp2
 go_ret
 exact ⟨rfl,rfl⟩
theorem cut_in (n:Nat) (s:List UInt8) (w:World) :
  CallsIn Fence.wide n Tryz.prog 99 #[.string ⟨s.toArray⟩] w fun e w'=>e = .returned (.func (.func 161) #[] #[.pointer (some ⟨w.heap.size,0,none⟩)])∧w.alloc (.cells (L6.bx s) 9) = w':=by
 refine callsIn_of_wp Tryz.func99 rfl trivial ?_ rfl
 simp only [Tryz.ntmps99,List.size_toArray,List.length_cons,List.length_nil,Nat.reduceAdd,Nat.reduceSub,Array.replicate_succ,Array.replicate_zero,List.push_toArray,List.append_toArray,List.nil_append,List.cons_append]
 gi_wp2
 go_ret
 exact ⟨rfl,rfl⟩
structure CutAt (l A:Nat) (rec:LoopState→Option Code→Loop) (J:Nat→List UInt8→World→Prop) (s:List UInt8) (X:World) (k:Nat):Prop where
 at_:J k s X
 yb:Bk X A 265 #[.func (.yield l) #[] #[]]
 nb:Bk X (A+1) 3 #[.int .i64 k]
 db:X.heap[A+3]? = some (.deferred (some []))
 rb:X.heap[A+4]? = some (.loop (rec .ready none))
 size:A+5≤X.heap.size
theorem CutAt.mid {l A:Nat} {rec:LoopState→Option Code→Loop} {J:Nat→List UInt8→World→Prop} (hM:∀ k s X X',J k s X→Mid A (A+5) X X'→J k s X') {s:List UInt8} {X X':World} {k:Nat}
  (h:CutAt l A rec J s X k) (hm:Mid A (A+5) X X') (hk:∀ i,i ≠ A+2→X'.heap[i]? = X.heap[i]?):CutAt l A rec J s X' k:=
 ⟨hM _ _ _ _ h.at_ hm,(hk _ (by omega)).trans h.yb,(hk _ (by omega)).trans h.nb,(hk _ (by omega)).trans h.db,(hk _ (by omega)).trans h.rb,by rw [hm.size];exact h.size⟩
section fin
variable {l A k:Nat} {rec:LoopState→Option Code→Loop} {J:Nat→List UInt8→World→Prop} {Jx:World→Prop} {s:List UInt8} {X2 X3:World}
 (hM:∀ k s X X',J k s X→Mid A (A+5) X X'→J k s X') (hMx:∀ X X',Jx X→Mid A (A+5) X X'→Jx X')
 (hb2:X2.heap[A+4]? = some (.loop (rec .busy none))) (hyb:Bk X2 A 265 #[.func (.yield l) #[] #[]]) (hsb:Bk X2 (A+2) 9 (L6.bx (L6.piece s).2))
 (hnb:Bk X2 (A+1) 3 (#[Value.int .i64 k].setIfInBounds 0 (.int .i64 ((k:Int)+1)))) (hd:X2.heap[A+3]? = some (.deferred (some []))) (hz:A+5≤X2.heap.size)
 (hkp:∀ i,A≤i→i < A+5→X3.heap[i]? = X2.drew.heap[i]?) (hz3:X2.drew.heap.size≤X3.heap.size)
include hM hMx hb2 hyb hsb hnb hd hz hkp hz3
theorem cut_round (hpost:J (k+1) (L6.piece s).2 X3):X3.heap[A+4]? = some (.loop (rec .busy none)) ∧
  ((Ending.returned (.bool true) = .returned (.bool true)∧(∃ k,CutAt l A rec J (L6.piece s).2 (X3.putObj (A+4) (.loop (rec .ready none))) k)∧Bk (X3.putObj (A+4) (.loop (rec .ready none))) (A+2) 9 (L6.bx (L6.piece s).2)) ∨
   (Ending.returned (.bool true) = .returned (.bool false)∧Jx (X3.putObj (A+4) (.loop (rec .ready none)))∧(X3.putObj (A+4) (.loop (rec .ready none))).heap[A+3]? = some (.deferred (some []))∧(X3.putObj (A+4) (.loop (rec .ready none))).heap[A+4]? = some (.loop (rec .done (some .ret))))):=by
 have hz':A+5≤X3.heap.size:=Nat.le_trans hz hz3
 have e0:Bk X3 A 265 #[.func (.yield l) #[] #[]]:=(hkp A (Nat.le_refl _) (by omega)).trans hyb
 have e1:Bk X3 (A+1) 3 #[.int .i64 ((k+1:Nat):Int)]:=by
  have:=(hkp (A+1) (by omega) (by omega)).trans hnb
  unfold Bk
  simpa using this
 have e2:Bk X3 (A+2) 9 (L6.bx (L6.piece s).2):=(hkp (A+2) (by omega) (by omega)).trans hsb
 refine ⟨(hkp (A+4) (by omega) (by omega)).trans hb2,.inl ⟨rfl,⟨k+1,hM _ _ _ _ hpost ((Mid.refl _ _ _).putObj _ _ (by omega) (by omega)),e0.put _ (by omega),e1.put _ (by omega),
  (World.putObj_heap_other (by omega)).trans ((hkp (A+3) (by omega) (by omega)).trans hd),World.putObj_heap_same (by omega),by rw [World.putObj_size];exact hz'⟩,e2.put _ (by omega)⟩⟩
theorem cut_stop (hpost:Jx X3):X3.heap[A+4]? = some (.loop (rec .busy none)) ∧
  ((Ending.returned (.bool false) = .returned (.bool true)∧(∃ k,CutAt l A rec J (L6.piece s).2 (X3.putObj (A+4) (.loop (rec .done (some .ret)))) k)∧Bk (X3.putObj (A+4) (.loop (rec .done (some .ret)))) (A+2) 9 (L6.bx (L6.piece s).2)) ∨
   (Ending.returned (.bool false) = .returned (.bool false)∧Jx (X3.putObj (A+4) (.loop (rec .done (some .ret))))∧(X3.putObj (A+4) (.loop (rec .done (some .ret)))).heap[A+3]? = some (.deferred (some []))∧(X3.putObj (A+4) (.loop (rec .done (some .ret)))).heap[A+4]? = some (.loop (rec .done (some .ret))))):=by
 have hz':A+5≤X3.heap.size:=Nat.le_trans hz hz3
 exact ⟨(hkp (A+4) (by omega) (by omega)).trans hb2,.inr ⟨rfl,hMx _ _ hpost ((Mid.refl _ _ _).putObj _ _ (by omega) (by omega)),
  (World.putObj_heap_other (by omega)).trans ((hkp (A+3) (by omega) (by omega)).trans hd),World.putObj_heap_same (by omega)⟩⟩
end fin
set_option maxRecDepth 100000 in
set_option maxHeartbeats 1000000 in
theorem cut1_in (n l:Nat) (hn:9≤n) (J:Nat→List UInt8→World→Prop) (Jx:World→Prop) (W:World)
  (hM:∀ k s X X',J k s X→Mid W.heap.size (W.heap.size+5) X X'→J k s X') (hMx:∀ X X',Jx X→Mid W.heap.size (W.heap.size+5) X X'→Jx X')
  (hk:∀ k s X,J k s X→k≤1000000000)
  (hY:∀ m k s X,s ≠ []→W.heap.size+5≤X.heap.size→J k s X→YieldAt Fence.wide m Tryz.prog l #[.int .i64 ((k:Int)+1),.string ⟨(L6.trim (L6.piece s).1).toArray⟩] X fun e X'=>
   ∃ b,e = .returned (.bool b)∧(∀ i,W.heap.size≤i→i < W.heap.size+5→X'.heap[i]? = X.heap[i]?)∧X.heap.size≤X'.heap.size∧(if b = true then J (k+1) (L6.piece s).2 X' else Jx X'))
  (s0:List UInt8) (hs0:s0.length≤1000000000) (bp:Nat) (hb:Bk W bp 9 (L6.bx s0)) (h0:∀ W1,Below W.heap.size W W1→J 0 s0 W1) :
  CallsIn Fence.wide n Tryz.prog 161 #[.func (.yield l) #[] #[],.pointer (some ⟨bp,0,none⟩)] W fun e W'=>(∃ v,e = .returned v)∧((∃ k,J k [] W') ∨ Jx W'):=by
 have h1:1≤n:=by omega
 have HS0:=Lib.hid hs0
 have HM:=Lib.hid hM
 have HMX:=Lib.hid hMx
 have HK:=Lib.hid hk
 have HY:=Lib.hid hY
 have H0:=Lib.hid h0
 have HB:=Lib.hid hb
 have hlt:=hb.lt
 have hc:=hb.cell 0
 simp only [L6.bx,List.getElem?_toArray,List.getElem?_cons_zero] at hc
 clear hM hMx hk hY h0 hb hs0
 refine callsIn_of_wp_marks Tryz.func161 rfl trivial ?_ rfl
 simp only [Tryz.ntmps161,List.size_toArray,List.length_cons,List.length_nil,Nat.reduceAdd,Nat.reduceSub,Array.replicate_succ,Array.replicate_zero,List.push_toArray,List.append_toArray,List.nil_append,List.cons_append]
 gi_wp2_with (refine ⟨trivial,?_⟩;gi_at_call 62;refine (lines_in _ s0 _).mono ?_;rintro e w' ⟨rfl,rfl⟩)
 have hsz:(((W.alloc (.cells #[.func (.yield l) #[] #[]] 265)).alloc (.cells #[.int .i64 0] 3)).alloc (.cells (L6.bx s0) 9)).heap.size = W.heap.size+3:=by simp
 have hb0:Bk (((W.alloc (.cells #[.func (.yield l) #[] #[]] 265)).alloc (.cells #[.int .i64 0] 3)).alloc (.cells (L6.bx s0) 9)) W.heap.size 265 #[.func (.yield l) #[] #[]]:=
  (Bk.fresh W _ _).kept (((Below.refl _ _).alloc (Nat.le_refl _) _).alloc (by simp) _)
 have hb1:Bk (((W.alloc (.cells #[.func (.yield l) #[] #[]] 265)).alloc (.cells #[.int .i64 0] 3)).alloc (.cells (L6.bx s0) 9)) (W.heap.size+1) 3 #[.int .i64 0]:=by
  have:=(Bk.fresh (W.alloc (.cells #[.func (.yield l) #[] #[]] 265)) 3 #[.int .i64 0]).kept ((Below.refl _ _).alloc (Nat.le_refl _) (.cells (L6.bx s0) 9))
  rwa [World.size_alloc] at this
 have hb2:Bk (((W.alloc (.cells #[.func (.yield l) #[] #[]] 265)).alloc (.cells #[.int .i64 0] 3)).alloc (.cells (L6.bx s0) 9)) (W.heap.size+2) 9 (L6.bx s0):=by
  have:=Bk.fresh ((W.alloc (.cells #[.func (.yield l) #[] #[]] 265)).alloc (.cells #[.int .i64 0] 3)) 9 (L6.bx s0)
  rwa [World.size_alloc,World.size_alloc] at this
 have hbw:Below W.heap.size W (((W.alloc (.cells #[.func (.yield l) #[] #[]] 265)).alloc (.cells #[.int .i64 0] 3)).alloc (.cells (L6.bx s0) 9)):=
  (((Below.refl _ _).alloc (Nat.le_refl _) _).alloc (by simp) _).alloc (by simp;omega) _
 generalize ((W.alloc (.cells #[.func (.yield l) #[] #[]] 265)).alloc (.cells #[.int .i64 0] 3)).alloc (.cells (L6.bx s0) 9) = W2 at hsz hb0 hb1 hb2 hbw ⊢
 refine range_at (gf:=117) (lb:=#[.pointer (some ⟨W.heap.size+1+1,0,none⟩)]) rfl (enters_of Tryz.func117 (by kernel_rfl) rfl)
  (fun _ X=>(∃ k,J k [] X)∧X.heap[W.heap.size+3]? = some (.deferred (some []))) (fun _ c X=>Jx X∧c = .ret∧X.heap[W.heap.size+3]? = some (.deferred (some []))) ?call ?done ?stop
 case done=>
  rintro fn X ⟨⟨k,hJ⟩,hd⟩
  rw [hsz]
  gi_wp2
  refine ⟨by simp,.inl ⟨_,_,rfl,run_takeDeferred ((World.putObj_heap_other (by omega)).trans hd),?_⟩⟩
  exact ⟨_,results_none rfl _ _ _,⟨_,rfl⟩,.inl ⟨k,HM.out _ _ _ _ hJ (((Mid.refl _ _ _).putObj _ _ (by omega) (by omega)).putObj _ _ (by omega) (by omega))⟩⟩
 case stop=>
  rintro fn c X ⟨hJx,rfl,hd⟩
  rw [hsz]
  gi_wp2
  refine ⟨by simp,.inl ⟨_,_,rfl,run_takeDeferred ((World.putObj_heap_other (by omega)).trans hd),?_⟩⟩
  exact ⟨_,results_none rfl _ _ _,⟨_,rfl⟩,.inr (HMX.out _ _ hJx (((Mid.refl _ _ _).putObj _ _ (by omega) (by omega)).putObj _ _ (by omega) (by omega)))⟩
 case call=>
  intro fn
  rw [hsz]
  generalize hrec:(rec_ fn _ _ _ _ (W.heap.size+3)) = rec
  show CallsIn Fence.wide (n - 1) Tryz.prog 117 #[.func (.yield (W.heap.size+4)) #[] #[],.pointer (some ⟨W.heap.size+2,0,none⟩)] _ _
  have hbw3:Below W2.heap.size W2 ((W2.alloc (.deferred (some []))).alloc (.loop (rec .ready none))):=((Below.refl _ _).alloc (Nat.le_refl _) _).alloc (by simp) _
  have hd3:((W2.alloc (.deferred (some []))).alloc (.loop (rec .ready none))).heap[W.heap.size+3]? = some (.deferred (some [])):=by
   have:=(Below.heap_alloc (W2.alloc (.deferred (some []))) (.loop (rec .ready none)) W2.heap.size (by simp)).trans (World.alloc_heap_new W2 _)
   rwa [hsz] at this
  have hr3:((W2.alloc (.deferred (some []))).alloc (.loop (rec .ready none))).heap[W.heap.size+4]? = some (.loop (rec .ready none)):=by
   have:=World.alloc_heap_new (W2.alloc (.deferred (some []))) (.loop (rec .ready none))
   rwa [World.size_alloc,hsz] at this
  have hsz3:((W2.alloc (.deferred (some []))).alloc (.loop (rec .ready none))).heap.size = W.heap.size+5:=by simp [hsz]
  have hJ3:J 0 s0 ((W2.alloc (.deferred (some []))).alloc (.loop (rec .ready none))):=H0.out _ (hbw.trans (hbw3.mono (by omega)))
  generalize (W2.alloc (.deferred (some []))).alloc (.loop (rec .ready none)) = W3 at hbw3 hd3 hr3 hsz3 hJ3 ⊢
  refine (lines1_in (n - 1) (W.heap.size+4) (W.heap.size+2) (by omega) (fun s X=>∃ k,CutAt l W.heap.size rec J s X k) (fun X=>Jx X∧X.heap[W.heap.size+3]? = some (.deferred (some []))∧X.heap[W.heap.size+4]? = some (.loop (rec .done (some .ret)))) ?_ ?_ s0 HS0.out ?_ W3 ⟨0,hJ3,hb0.kept hbw3,hb1.kept hbw3,hd3,hr3,by omega⟩ (hb2.kept hbw3)).mono ?_
  ·rintro s X u ⟨k,h⟩
   exact ⟨k,h.mid HM.out ((Mid.refl _ _ _).setCell _ _ _ (by omega) (by omega)) (fun i hi=>Below.heap_setCell _ _ _ _ hi)⟩
  ·rintro s X ⟨k,h⟩
   exact ⟨k,h.mid HM.out (Mid.refl _ _ _).drew (fun i hi=>rfl)⟩
  ·rintro s X hs hle ⟨k,h⟩ hbs
   have hr:=h.rb
   rw [← hrec] at hr
   refine yield_at hr rfl { tmps:=#[.func (.yield l) #[] #[],.pointer (some ⟨bp,0,none⟩),.pointer (some ⟨W.heap.size,0,none⟩),.pointer (some ⟨W.heap.size+1,0,none⟩),.string ⟨(L6.piece s).1.toArray⟩,.string ⟨s0.toArray⟩,.func (.func 117) #[] #[.pointer (some ⟨W.heap.size+1+1,0,none⟩)],.string ⟨(L6.piece s).1.toArray⟩,undef,undef,undef,undef,undef,undef,undef,undef],defers:=[] } (fun K hK=>by gi_wp2;exact hK) ?_
   rw [hrec]
   have hX1b:(X.putObj (W.heap.size+4) (.loop (rec .busy none))).heap[W.heap.size+4]? = some (.loop (rec .busy none)):=World.putObj_heap_same (by have:=h.size;omega)
   have hX1y:=h.yb.put (.loop (rec .busy none)) (l:=W.heap.size+4) (by omega)
   have hX1n:=h.nb.put (.loop (rec .busy none)) (l:=W.heap.size+4) (by omega)
   have hX1s:=hbs.put (.loop (rec .busy none)) (l:=W.heap.size+4) (by omega)
   have hX1d:(X.putObj (W.heap.size+4) (.loop (rec .busy none))).heap[W.heap.size+3]? = some (.deferred (some [])):=(World.putObj_heap_other (by omega)).trans h.db
   have hX1j:=HM.out _ _ _ _ h.at_ ((Mid.refl _ _ _).putObj (W.heap.size+4) (.loop (rec .busy none)) (by omega) (by omega))
   have hX1z:W.heap.size+5≤(X.putObj (W.heap.size+4) (.loop (rec .busy none))).heap.size:=by rw [World.putObj_size];exact h.size
   generalize X.putObj (W.heap.size+4) (.loop (rec .busy none)) = X1 at hX1b hX1y hX1n hX1s hX1d hX1j hX1z ⊢
   clear h hbs hr
   have hk9:=HK.out _ _ _ hX1j
   have hw:IntKind.i64.wrap ((k:Int)+1) = (k:Int)+1:=by go_bits;exact trivial
   have c0:=hX1y.cell 0
   have c1:=hX1n.cell 0
   have f1:=hX1n.free 0
   have mixed:Tryz.prog.follows .mixedOrders = true:=by kernel_rfl
   have CT:=Lib.hid (fun Z=>Tryz.strings_TrimSuffix ⟨(L6.piece s).1.toArray⟩ ⟨#[10]⟩ Z (by have h1:=congrArg List.length (L6.piece_app s);simp only [List.length_append] at h1;have h2:=HS0.out;simp [ByteArray.size];omega))
   gi_wp2_with fail
   have hX2b:(X1.setCell ⟨W.heap.size+1,0,none⟩ (.int .i64 ((k:Int)+1))).heap[W.heap.size+4]? = some (.loop (rec .busy none)):=(Below.heap_setCell _ _ _ _ (by show W.heap.size+4 ≠ W.heap.size+1;omega)).trans hX1b
   have hX2y:=(But.setCell X1 (W.heap.size+1) 0 (.int .i64 ((k:Int)+1))).bk hX1y (by omega)
   have hX2s:=(But.setCell X1 (W.heap.size+1) 0 (.int .i64 ((k:Int)+1))).bk hX1s (by omega)
   have hX2n:=hX1n.set 0 (.int .i64 ((k:Int)+1))
   have hX2d:(X1.setCell ⟨W.heap.size+1,0,none⟩ (.int .i64 ((k:Int)+1))).heap[W.heap.size+3]? = some (.deferred (some [])):=(Below.heap_setCell _ _ _ _ (by show W.heap.size+3 ≠ W.heap.size+1;omega)).trans hX1d
   have hX2j:=HM.out _ _ _ _ hX1j ((Mid.refl _ _ _).setCell (W.heap.size+1) 0 (.int .i64 ((k:Int)+1)) (by omega) (by omega))
   have hX2z:W.heap.size+5≤(X1.setCell ⟨W.heap.size+1,0,none⟩ (.int .i64 ((k:Int)+1))).heap.size:=by simpa [World.setCell] using hX1z
   generalize X1.setCell ⟨W.heap.size+1,0,none⟩ (.int .i64 ((k:Int)+1)) = X2 at hX2b hX2y hX2s hX2n hX2d hX2j hX2z ⊢
   clear hX1b hX1y hX1n hX1s hX1d hX1j hX1z c0 c1 f1
   have c0:=hX2y.cell 0
   have c1:=hX2n.cell 0
   simp only [List.setIfInBounds_toArray,List.set_cons_zero,List.getElem?_toArray,List.getElem?_cons_zero] at c0 c1
   obtain ⟨fn2,tmps2,assign2,body2,hy,hR⟩:=HY.out (n - 1 - 1 - 1) k s X2.drew hs hX2z (HM.out _ _ _ _ hX2j (Mid.refl _ _ _).drew)
   unfold L6.trim at hy
   have HD2:=Lib.hid hX2d
   have HB2:=Lib.hid hX2b
   have HYB2:=Lib.hid hX2y
   have HSB2:=Lib.hid hX2s
   have HNB2:=Lib.hid hX2n
   have HZ2:=Lib.hid hX2z
   clear hX2b hX2y hX2s hX2n hX2d hX2j hX2z
   have hd1:1≤n - 1 - 1:=by omega
   have hd2:1≤n - 1 - 1 - 1:=by omega
   gi_region_with_o (first
    | (refine ⟨trivial,?_⟩;gi_at_call 63;refine (CallsIn.inRound _ (callsIn_wide.2 (CT.out _))).mono ?_;rintro e w' ⟨rfl,rfl⟩)
    | (refine hR.mono ?_;rintro e X3 ⟨b,rfl,hkp,hz3,hpost⟩))
   all_goals (cases b <;> (simp only [if_true,if_false,Bool.false_eq_true] at hpost;gi_wp2))
   all_goals first
    | exact cut_round HM.out HMX.out HB2.out HYB2.out HSB2.out HNB2.out HD2.out HZ2.out hkp hz3 hpost
    | exact cut_stop HM.out HMX.out HB2.out HYB2.out HSB2.out HNB2.out HD2.out HZ2.out hkp hz3 hpost
  ·rintro e X ⟨hv,(⟨k,h⟩ | ⟨hJx,hd,hr⟩)⟩
   ·exact ⟨hv,.inl ⟨h.rb,⟨k,h.at_⟩,h.db⟩⟩
   ·exact ⟨hv,.inr ⟨_,hr,hJx,rfl,hd⟩⟩
end Go.Proofs.YtpcpaoeajcjoiaaGreatDoor
