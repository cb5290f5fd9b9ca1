/- Texts joined, what is not reached left out. -/
import Derived.Test.YtpcpaoeajcjoiaaGreatDoorDR
import Derived.Deep.RegionHeld3
import Derived.Deep.RegionLaw
import Derived.Test.YtpcpaoeajcjoiaaGreatDoorQNmRefQ
set_option linter.unusedVariables false
set_option linter.unusedSimpArgs false
namespace Go.Proofs.YtpcpaoeajcjoiaaGreatDoor
open Go.RowKit Kit
theorem rwrt : RowTy Tryz.prog 70 80 7 56 :=
 ⟨Tryz.underlying70, by
  have h : (Tryz.prog.info? 80).map (fun i => (i.zero, i.size, i.bytes)) = some (some (.agg #[.int .i64 0, .int .u32 0, .string ByteArray.empty, .int .i64 0, .int .u32 0, .int .u32 0, .int .u32 0]), 7, 56) := by kernel_rfl
  obtain ⟨i, h1, h2, h3, h4⟩ := info_parts h
  exact ⟨i, _, h1, h2, h3, h4, by kernel_rfl⟩⟩
theorem Rd.cutAt {P : Program} {t e : TypeId} {size bytes : Nat} (rt : RowTy P t e size bytes) {w : World} {A : Option Addr} {n c : Nat} {xs : List Value} (h : Rd w size (.slice A n c) n xs) (k : Nat) (hk : k ≤ n) :
  (∃ v1, (∀ (kk : IntKind) W, (Instr.slice t (.slice A n c) none (some (.int kk (k : Int))) none).run P W = .ok v1 W) ∧ Rd w size v1 k (xs.take (k * size))) ∧
  (∃ v2, (∀ (kk : IntKind) W, (Instr.slice t (.slice A n c) (some (.int kk (k : Int))) none none).run P W = .ok v2 W) ∧ Rd w size v2 (n - k) (xs.drop (k * size))) := by
 obtain ⟨i, z, hi, hz, hs, hb, hzs⟩ := rt.info
 obtain ⟨hl, A', c', e1, h2, h3, h4⟩ := h
 injection e1 with e1 _ e3
 subst e1 e3
 have helem : P.elem t = e := by simp [Program.elem, rt.slice]
 have ht : P.underlying t = some (.slice (P.elem t)) := by rw [helem]; exact rt.slice
 have hsz : ∀ W, (sizeOf (P.elem t)).run P W = .ok size W := fun W => by rw [helem]; simp [sizeOf, typeInfo, hi, hs]
 have hmul : k * size ≤ n * size := Nat.mul_le_mul_right _ hk
 refine ⟨⟨sliced A 0 k c size, fun kk W => ?_, ?_⟩, ⟨sliced A k n c size, fun kk W => ?_, ?_⟩⟩
 ·rw [run_slice_h (w := W) t _ _ _ ht kk k (by omega) (by omega), hsz]
  simp
 ·refine ⟨by rw [List.length_take]; omega, _, _, by unfold sliced; rfl, by omega, by omega, fun hn => ?_⟩
  obtain ⟨g, off, rfl, hg, hc⟩ := h4 (by omega)
  refine ⟨g, off, by rw [if_neg (by omega)]; simp [addr_add], hg, fun j u hu => hc j u ?_⟩
  rw [List.getElem?_take] at hu
  split at hu
  ·exact hu
  ·cases hu
 ·rw [run_slice_l (w := W) t _ _ _ ht kk k (by omega) (by omega), hsz]
  simp
 ·refine ⟨by rw [List.length_drop, hl, Nat.sub_mul], _, _, by unfold sliced; rfl, by omega, by omega, fun hn => ?_⟩
  obtain ⟨g, off, rfl, hg, hc⟩ := h4 (by omega)
  refine ⟨g, off + k * size, by rw [if_neg (by omega)]; simp [addr_add], hg, fun j u hu => ?_⟩
  rw [List.getElem?_drop] at hu
  rw [Nat.add_assoc]
  exact hc _ u hu
def Dc.RPPost (w : World) (l : List Dc.Wd) (x : Dc.Wd) (e : Ending) (w' : World) : Prop :=
 Below w.heap.size w w' ∧ (((∃ y ∈ l, y.at_ = x.at_) ∧ ∃ v', e = .returned (.tuple #[v', .bool false])) ∨ ∃ k v', e = .returned (.tuple #[v', .bool true]) ∧ RdD w' v' (Dc.ins l k x) ∧ (Dc.ins l k x).Pairwise (fun x y => x.at_ < y.at_))
theorem Dc.ins_flat (l : List Dc.Wd) (k : Nat) (x : Dc.Wd) (hk : k ≤ l.length) : (Dc.ins l k x).flatMap Dc.wenc = (l.flatMap Dc.wenc).take (k * 7) ++ Dc.wenc x ++ (l.flatMap Dc.wenc).drop (k * 7) := by
 have h1 : l.flatMap Dc.wenc = (l.take k).flatMap Dc.wenc ++ (l.drop k).flatMap Dc.wenc := by rw [← List.flatMap_append, List.take_append_drop]
 have h2 : ((l.take k).flatMap Dc.wenc).length = k * 7 := by rw [flat_length _ _ Dc.wenc_len, List.length_take]; congr 1; omega
 unfold Dc.ins
 rw [List.flatMap_append, List.flatMap_append, h1, List.take_left' h2, List.drop_left' h2]
 simp
theorem Dc.k_next {k n : Nat} (h : k < n) (hn : n ≤ 5000) : IntKind.i64.wrap ((k : Int) + 1) = (k : Int) + 1 := by rw [IntKind.wrap_i64]; omega
theorem Dc.one_all (l : List Dc.Wd) (u : Value) (hu : u ∈ l.flatMap Dc.wenc) : u.oneCell' = true := by
 obtain ⟨y, _, h⟩ := List.mem_flatMap.1 hu
 exact Dc.one y u h
theorem Dc.bk_a (W : World) (cs : Array Value) : Bk ((W.alloc (.cells #[] 80)).alloc (.cells cs 80)) (W.heap.size + 1) 80 cs := by
 have := Bk.fresh (W.alloc (.cells #[] 80)) 80 cs
 rwa [World.size_alloc] at this
theorem Dc.bk_b (W : World) (cs : Array Value) : Bk ((W.alloc (.cells cs 80)).alloc (.cells #[] 80)) W.heap.size 80 cs :=
 (Bk.fresh W 80 cs).kept ((Below.refl _ _).alloc (Nat.le_refl _) _)
theorem Dc.own0R (W : World) : (W.alloc (.cells #[] 80)).ownsRow W.heap.size 80 7 (.slice (some ⟨W.heap.size, 0, none⟩) 0 0) 0 [] :=
 ⟨rfl, .inr ⟨W.heap.size, 0, #[], rfl, Nat.le_refl _, heap_alloc_new W _, Nat.le_refl _, Nat.zero_le _, rfl, rfl⟩⟩
theorem Dc.put_fin {w : World} {B : Nat} {v : Value} {l : List Dc.Wd} {k : Nat} {x : Dc.Wd} (hk : k ≤ l.length) (h : w.ownsRow B 80 7 v (0 + k + 1 + (l.length - k)) ([] ++ (l.flatMap Dc.wenc).take (k * 7) ++ Dc.wenc x ++ (l.flatMap Dc.wenc).drop (k * 7))) : RdD w v (Dc.ins l k x) := by
 have h1 := Rd.of_own h
 rw [List.nil_append, ← Dc.ins_flat l k x hk, show 0 + k + 1 + (l.length - k) = (Dc.ins l k x).length by rw [Dc.ins_len]; omega] at h1
 exact h1
theorem Dc.own0R1 (W : World) (cs : Array Value) : ((W.alloc (.cells cs 80)).alloc (.cells #[] 80)).ownsRow W.heap.size 80 7 (.slice (some ⟨W.heap.size + 1, 0, none⟩) 0 0) 0 [] := by
 have := Dc.own0R (W.alloc (.cells cs 80))
 rw [World.size_alloc] at this
 exact own_rebase this (by omega)
set_option maxRecDepth 100000 in
set_option maxHeartbeats 4000000 in
theorem rput11 (w : World) (v : Value) (l : List Dc.Wd) (x : Dc.Wd) (hv : RdD w v l) (hl : l.length ≤ 5000) (hs : l.Pairwise (fun x y => x.at_ < y.at_)) :
  Calls Tryz.prog 77 #[v, .agg (Dc.wenc x).toArray] w (Dc.RPPost w l x) := by
 have HS := Lib.hid hs
 clear hs
 obtain ⟨A, c, rfl⟩ := Rd.form hv
 have hal : Below w.heap.size w (w.alloc (.cells (Dc.wenc x).toArray 80)) := (Below.refl _ _).alloc (Nat.le_refl _) _
 have hbk := Bk.fresh w 80 (Dc.wenc x).toArray
 obtain ⟨w1, hw1⟩ : ∃ w1, w.alloc (.cells (Dc.wenc x).toArray 80) = w1 := ⟨_, rfl⟩
 rw [hw1] at hal hbk
 have HAL := Lib.hid hal
 have HBK := Lib.hid hbk
 have HV := Lib.hid (Rd.kept hv hal)
 have HL := Lib.hid hl
 have ex : (Dc.wenc x).toArray[1]? = some (.int .u32 (x.at_ : Int)) := rfl
 clear hv hal hbk
 unfold Dc.wenc at hw1 ⊢
 go_enter Tryz.func77, Tryz.ntmps77
 go_wp2_with fail
 go_loopw [6] (fun i wr => ∃ k : Nat, k ≤ l.length ∧ i = .int .i64 (k : Int) ∧ (∀ j, j < k → (l.getD j Dc.w0).at_ < x.at_) ∧ Below w1.heap.size w1 wr) (fun i _ => l.length - (intOf i).toNat)
 case atStart => exact ⟨0, Nat.zero_le _, rfl, fun j hj => absurd hj (by omega), Below.refl _ _⟩
 case round =>
  obtain ⟨k, hk, rfl, hlo, hbr⟩ := hrel
  have HLO := Lib.hid hlo
  have HBR := Lib.hid hbr
  have hb1 := (HBK.out.kept hbr).cell 1
  rw [ex] at hb1
  clear hlo
  by_cases hlt : k < l.length
  ·have hlt' : (k : Int) < (l.length : Int) := by omega
   have hk0 : (0 : Int) ≤ (k : Int) := by omega
   obtain ⟨_, g, off, rfl, hcell⟩ := RdD.at (HV.out.kept hbr) hlt Dc.w0
   have hc := hcell k hlt
   have HD : RowKit.Hid (∃ t, (l.getD k Dc.w0).at_ = t) := ⟨_, rfl⟩
   obtain ⟨t, ht⟩ := HD.out
   rw [ht] at hc
   have HT := Lib.hid ht
   have wk := Dc.k_next hlt HL.out
   clear hcell hbr ht HD
   by_cases hta : t < x.at_
   ·have hta' : decide ((t : Int) < (x.at_ : Int)) = true := by rw [decide_eq_true_iff]; omega
    go_wp2_with fail
    go_region
    go_wp2_with fail
    go_roundw
    case rel =>
     refine ⟨k + 1, by omega, by push_cast; rfl, fun j hj => ?_, HBR.out.drew⟩
     by_cases hjk : j = k
     ·rw [hjk, HT.out]; exact hta
     ·exact HLO.out j (by omega)
    case measure =>
     simp only [intOf]
     omega
   ·have hta' : decide ((t : Int) < (x.at_ : Int)) = false := by rw [decide_eq_false_iff_not]; omega
    by_cases hte : t = x.at_
    ·have hte' : ((t : Int) == (x.at_ : Int)) = true := by rw [beq_iff_eq]; omega
     go_wp2_with fail
     go_region
     go_wp2_with fail
     go_region
     go_wp2_with fail
     go_ret2
     refine ⟨HAL.out.trans (HBR.out.drew.drew.mono HAL.out.size), .inl ⟨⟨l.getD k Dc.w0, ?_, by rw [HT.out, hte]⟩, _, rfl⟩⟩
     rw [List.getD, List.getElem?_eq_getElem hlt]
     exact List.getElem_mem hlt
    ·have hte' : ((t : Int) == (x.at_ : Int)) = false := by rw [beq_eq_false_iff_ne]; omega
     go_wp2_with fail
     go_region
     go_wp2_with fail
     go_region
     go_wp2_with fail
     have hBW := HBR.out.drew.drew
     generalize hW : wr.drew.drew = W at hBW ⊢
     have KEEP := Lib.hid (fun (W' : World) (hb : Below W.heap.size W W') => show W'.cell? ⟨w.heap.size, 0, none⟩ = some (.int .i64 (x.list : Int)) ∧ W'.cell? ⟨w.heap.size, 1, none⟩ = some (.int .u32 (x.at_ : Int)) ∧ W'.cell? ⟨w.heap.size, 2, none⟩ = some (.string ⟨x.h.name.toArray⟩) ∧ W'.cell? ⟨w.heap.size, 3, none⟩ = some (.int .i64 (x.h.fl : Int)) ∧ W'.cell? ⟨w.heap.size, 4, none⟩ = some (.int .u32 (x.h.link : Int)) ∧ W'.cell? ⟨w.heap.size, 5, none⟩ = some (.int .u32 (x.h.xt : Int)) ∧ W'.cell? ⟨w.heap.size, 6, none⟩ = some (.int .u32 (x.h.size : Int)) from (by have hbk := (HBK.out.kept hBW).kept hb; exact ⟨hbk.cell 0, hbk.cell 1, hbk.cell 2, hbk.cell 3, hbk.cell 4, hbk.cell 5, hbk.cell 6⟩))
     obtain ⟨⟨v1, hsl1, hrd1⟩, v2, hsl2, hrd2⟩ := Rd.cutAt rwrt (HV.out.kept hBW) k hk
     have R1 := Lib.hid hrd1
     have R2 := Lib.hid hrd2
     have sl1 := hsl1 .i64
     have sl2 := hsl2 .i64
     have O1 := Lib.hid (fun (W' : World) (hb : Below W.heap.size W W') => own_rebase (Dc.own0R W') hb.size)
     have B0 := Lib.hid ((Below.refl W.heap.size W).drew)
     have ON1 := Lib.hid (show ∀ u ∈ (l.flatMap Dc.wenc).take (k * 7), u.oneCell' = true from fun u hu => Dc.one_all l u (List.mem_of_mem_take hu))
     have ON2 := Lib.hid (show ∀ u ∈ (l.flatMap Dc.wenc).drop (k * 7), u.oneCell' = true from fun u hu => Dc.one_all l u (List.mem_of_mem_drop hu))
     clear hrd1 hrd2 hsl1 hsl2
     go_region_held3 (fun W' => W'.cell? ⟨w.heap.size, 0, none⟩ = some (.int .i64 (x.list : Int)) ∧ W'.cell? ⟨w.heap.size, 1, none⟩ = some (.int .u32 (x.at_ : Int)) ∧ W'.cell? ⟨w.heap.size, 2, none⟩ = some (.string ⟨x.h.name.toArray⟩) ∧ W'.cell? ⟨w.heap.size, 3, none⟩ = some (.int .i64 (x.h.fl : Int)) ∧ W'.cell? ⟨w.heap.size, 4, none⟩ = some (.int .u32 (x.h.link : Int)) ∧ W'.cell? ⟨w.heap.size, 5, none⟩ = some (.int .u32 (x.h.xt : Int)) ∧ W'.cell? ⟨w.heap.size, 6, none⟩ = some (.int .u32 (x.h.size : Int)))
      (first | with_reducible exact KEEP.out _ HB7.out | with_reducible exact KEEP.out _ HB5.out | with_reducible exact KEEP.out _ HB3.out | with_reducible exact KEEP.out _ B0.out | exact KEEP.out _ ((Below.refl _ _).alloc (Nat.le_refl _) _).drew | exact KEEP.out _ (((Below.refl _ _).alloc (Nat.le_refl _) _).alloc (by simp) _).drew | exact KEEP.out _ (HB3.out.alloc HB3.out.size _) | go_keep)
      (first
       | (refine step_appendR (by rfl) _ _ _ _ (by rfl) rwrt (by decide) W.heap.size (.slice (some ⟨W.heap.size, 0, none⟩) 0 0) (by rfl) 0 [] (by first | exact own_rebase (Dc.own0R W.drew) (Nat.le_refl _) | exact own_kept (own_rebase (Dc.own0R W.drew) (Nat.le_refl _)) ((Below.refl _ _).alloc (Nat.le_refl _) _) | exact Dc.own0R1 W.drew _) v1 (by rfl) k _ (Rd.src rwrt (R1.out.kept (by first | exact ((Below.refl _ _).alloc (Nat.le_refl _) _).drew | exact (((Below.refl _ _).alloc (Nat.le_refl _) _).alloc (by simp) _).drew)) (ON1.out)) (by omega) (by unfold maxLen; omega) (by first | (simp; done) | (simp; omega)) ?_; intro v3 w3 ho3 hb3 hg3; have HB3 := Lib.hid (show Below W.heap.size W w3 from (show Below W.heap.size W _ from (by first | exact ((Below.refl _ _).alloc (Nat.le_refl _) _).drew | exact (((Below.refl _ _).alloc (Nat.le_refl _) _).alloc (by simp) _).drew)).trans hb3); have HO3 := Lib.hid ho3; have HG3 := Lib.hid hg3; clear ho3 hb3 hg3)
       | (refine step_appendR (by rfl) _ _ _ _ (by rfl) rwrt (by decide) W.heap.size (.slice (some ⟨(W.heap.size + 1), 0, none⟩) 0 0) (by rfl) 0 [] (by first | exact own_rebase (Dc.own0R W.drew) (Nat.le_refl _) | exact own_kept (own_rebase (Dc.own0R W.drew) (Nat.le_refl _)) ((Below.refl _ _).alloc (Nat.le_refl _) _) | exact Dc.own0R1 W.drew _) v1 (by rfl) k _ (Rd.src rwrt (R1.out.kept (by first | exact ((Below.refl _ _).alloc (Nat.le_refl _) _).drew | exact (((Below.refl _ _).alloc (Nat.le_refl _) _).alloc (by simp) _).drew)) (ON1.out)) (by omega) (by unfold maxLen; omega) (by first | (simp; done) | (simp; omega)) ?_; intro v3 w3 ho3 hb3 hg3; have HB3 := Lib.hid (show Below W.heap.size W w3 from (show Below W.heap.size W _ from (by first | exact ((Below.refl _ _).alloc (Nat.le_refl _) _).drew | exact (((Below.refl _ _).alloc (Nat.le_refl _) _).alloc (by simp) _).drew)).trans hb3); have HO3 := Lib.hid ho3; have HG3 := Lib.hid hg3; clear ho3 hb3 hg3)
       | (refine step_appendR (by rfl) _ _ _ _ (by rfl) rwrt (by decide) W.heap.size v3 (by rfl) (0 + k) _ (by first | exact HO3.out | exact own_kept HO3.out ((Below.refl _ _).alloc (Nat.le_refl _) _)) _ (by rfl) 1 _ (Rd.src rwrt (Rd.built (cs := #[.int .i64 (x.list : Int), .int .u32 (x.at_ : Int), .string ⟨x.h.name.toArray⟩, .int .i64 (x.h.fl : Int), .int .u32 (x.h.link : Int), .int .u32 (x.h.xt : Int), .int .u32 (x.h.size : Int)]) (by first | exact Bk.fresh w3 _ _ | exact (World.grownBy.block HG3.out _ (by first | (simp; done) | (simp; omega)) (by first | (simp [Value.ownBlock]; done) | (simp [Value.ownBlock]; omega))).trans (Dc.bk_a W.drew _) | exact (World.grownBy.block HG3.out _ (by first | (simp; done) | (simp; omega)) (by first | (simp [Value.ownBlock]; done) | (simp [Value.ownBlock]; omega))).trans (Dc.bk_b W.drew _)) rfl) (Dc.one x)) (by omega) (by unfold maxLen; omega) (by first | exact HB3.out.size | (have := HB3.out.size; simp; omega)) ?_; intro v5 w5 ho5 hb5 hg5; have HB5 := Lib.hid (show Below W.heap.size W w5 from by first | exact HB3.out.trans hb5 | exact (HB3.out.alloc HB3.out.size _).trans hb5); have HO5 := Lib.hid ho5; clear ho5 hb5 hg5)
       | (refine step_appendR (by rfl) _ _ _ _ (by rfl) rwrt (by decide) W.heap.size v5 (by rfl) (0 + k + 1) _ HO5.out v2 (by rfl) (l.length - k) _ (Rd.src rwrt (R2.out.kept HB5.out) (ON2.out)) (by omega) (by unfold maxLen; omega) HB5.out.size ?_; intro v7 w7 ho7 hb7 hg7; have HB7 := Lib.hid (HB5.out.trans hb7); have HO7 := Lib.hid ho7; clear ho7 hb7 hg7))
     all_goals (go_wp2_with fail)
     all_goals go_ret2
     all_goals refine ⟨HAL.out.trans ((show Below w1.heap.size w1 W from hBW).trans (HB7.out.mono hBW.size) |>.mono HAL.out.size), .inr ⟨k, _, rfl, Dc.put_fin hk HO7.out, Dc.ins_sorted HS.out (fun j hj _ => HLO.out j hj) (fun hkl => ?_)⟩⟩
     all_goals (rw [HT.out]; omega)
  ·have hlt' : decide ((k : Int) < (l.length : Int)) = false := by rw [decide_eq_false_iff_not]; omega
   go_wp2_with fail
   go_region
   go_wp2_with fail
   go_region
   go_wp2_with fail
   have hBW := HBR.out.drew.drew
   generalize hW : wr.drew.drew = W at hBW ⊢
   have KEEP := Lib.hid (fun (W' : World) (hb : Below W.heap.size W W') => show W'.cell? ⟨w.heap.size, 0, none⟩ = some (.int .i64 (x.list : Int)) ∧ W'.cell? ⟨w.heap.size, 1, none⟩ = some (.int .u32 (x.at_ : Int)) ∧ W'.cell? ⟨w.heap.size, 2, none⟩ = some (.string ⟨x.h.name.toArray⟩) ∧ W'.cell? ⟨w.heap.size, 3, none⟩ = some (.int .i64 (x.h.fl : Int)) ∧ W'.cell? ⟨w.heap.size, 4, none⟩ = some (.int .u32 (x.h.link : Int)) ∧ W'.cell? ⟨w.heap.size, 5, none⟩ = some (.int .u32 (x.h.xt : Int)) ∧ W'.cell? ⟨w.heap.size, 6, none⟩ = some (.int .u32 (x.h.size : Int)) from (by have hbk := (HBK.out.kept hBW).kept hb; exact ⟨hbk.cell 0, hbk.cell 1, hbk.cell 2, hbk.cell 3, hbk.cell 4, hbk.cell 5, hbk.cell 6⟩))
   obtain ⟨⟨v1, hsl1, hrd1⟩, v2, hsl2, hrd2⟩ := Rd.cutAt rwrt (HV.out.kept hBW) k hk
   have R1 := Lib.hid hrd1
   have R2 := Lib.hid hrd2
   have sl1 := hsl1 .i64
   have sl2 := hsl2 .i64
   have O1 := Lib.hid (fun (W' : World) (hb : Below W.heap.size W W') => own_rebase (Dc.own0R W') hb.size)
   have B0 := Lib.hid ((Below.refl W.heap.size W).drew)
   have ON1 := Lib.hid (show ∀ u ∈ (l.flatMap Dc.wenc).take (k * 7), u.oneCell' = true from fun u hu => Dc.one_all l u (List.mem_of_mem_take hu))
   have ON2 := Lib.hid (show ∀ u ∈ (l.flatMap Dc.wenc).drop (k * 7), u.oneCell' = true from fun u hu => Dc.one_all l u (List.mem_of_mem_drop hu))
   clear hrd1 hrd2 hsl1 hsl2
   go_region_held3 (fun W' => W'.cell? ⟨w.heap.size, 0, none⟩ = some (.int .i64 (x.list : Int)) ∧ W'.cell? ⟨w.heap.size, 1, none⟩ = some (.int .u32 (x.at_ : Int)) ∧ W'.cell? ⟨w.heap.size, 2, none⟩ = some (.string ⟨x.h.name.toArray⟩) ∧ W'.cell? ⟨w.heap.size, 3, none⟩ = some (.int .i64 (x.h.fl : Int)) ∧ W'.cell? ⟨w.heap.size, 4, none⟩ = some (.int .u32 (x.h.link : Int)) ∧ W'.cell? ⟨w.heap.size, 5, none⟩ = some (.int .u32 (x.h.xt : Int)) ∧ W'.cell? ⟨w.heap.size, 6, none⟩ = some (.int .u32 (x.h.size : Int)))
    (first | with_reducible exact KEEP.out _ HB7.out | with_reducible exact KEEP.out _ HB5.out | with_reducible exact KEEP.out _ HB3.out | with_reducible exact KEEP.out _ B0.out | exact KEEP.out _ ((Below.refl _ _).alloc (Nat.le_refl _) _).drew | exact KEEP.out _ (((Below.refl _ _).alloc (Nat.le_refl _) _).alloc (by simp) _).drew | exact KEEP.out _ (HB3.out.alloc HB3.out.size _) | go_keep)
    (first
     | (refine step_appendR (by rfl) _ _ _ _ (by rfl) rwrt (by decide) W.heap.size (.slice (some ⟨W.heap.size, 0, none⟩) 0 0) (by rfl) 0 [] (by first | exact own_rebase (Dc.own0R W.drew) (Nat.le_refl _) | exact own_kept (own_rebase (Dc.own0R W.drew) (Nat.le_refl _)) ((Below.refl _ _).alloc (Nat.le_refl _) _) | exact Dc.own0R1 W.drew _) v1 (by rfl) k _ (Rd.src rwrt (R1.out.kept (by first | exact ((Below.refl _ _).alloc (Nat.le_refl _) _).drew | exact (((Below.refl _ _).alloc (Nat.le_refl _) _).alloc (by simp) _).drew)) (ON1.out)) (by omega) (by unfold maxLen; omega) (by first | (simp; done) | (simp; omega)) ?_; intro v3 w3 ho3 hb3 hg3; have HB3 := Lib.hid (show Below W.heap.size W w3 from (show Below W.heap.size W _ from (by first | exact ((Below.refl _ _).alloc (Nat.le_refl _) _).drew | exact (((Below.refl _ _).alloc (Nat.le_refl _) _).alloc (by simp) _).drew)).trans hb3); have HO3 := Lib.hid ho3; have HG3 := Lib.hid hg3; clear ho3 hb3 hg3)
     | (refine step_appendR (by rfl) _ _ _ _ (by rfl) rwrt (by decide) W.heap.size (.slice (some ⟨(W.heap.size + 1), 0, none⟩) 0 0) (by rfl) 0 [] (by first | exact own_rebase (Dc.own0R W.drew) (Nat.le_refl _) | exact own_kept (own_rebase (Dc.own0R W.drew) (Nat.le_refl _)) ((Below.refl _ _).alloc (Nat.le_refl _) _) | exact Dc.own0R1 W.drew _) v1 (by rfl) k _ (Rd.src rwrt (R1.out.kept (by first | exact ((Below.refl _ _).alloc (Nat.le_refl _) _).drew | exact (((Below.refl _ _).alloc (Nat.le_refl _) _).alloc (by simp) _).drew)) (ON1.out)) (by omega) (by unfold maxLen; omega) (by first | (simp; done) | (simp; omega)) ?_; intro v3 w3 ho3 hb3 hg3; have HB3 := Lib.hid (show Below W.heap.size W w3 from (show Below W.heap.size W _ from (by first | exact ((Below.refl _ _).alloc (Nat.le_refl _) _).drew | exact (((Below.refl _ _).alloc (Nat.le_refl _) _).alloc (by simp) _).drew)).trans hb3); have HO3 := Lib.hid ho3; have HG3 := Lib.hid hg3; clear ho3 hb3 hg3)
     | (refine step_appendR (by rfl) _ _ _ _ (by rfl) rwrt (by decide) W.heap.size v3 (by rfl) (0 + k) _ (by first | exact HO3.out | exact own_kept HO3.out ((Below.refl _ _).alloc (Nat.le_refl _) _)) _ (by rfl) 1 _ (Rd.src rwrt (Rd.built (cs := #[.int .i64 (x.list : Int), .int .u32 (x.at_ : Int), .string ⟨x.h.name.toArray⟩, .int .i64 (x.h.fl : Int), .int .u32 (x.h.link : Int), .int .u32 (x.h.xt : Int), .int .u32 (x.h.size : Int)]) (by first | exact Bk.fresh w3 _ _ | exact (World.grownBy.block HG3.out _ (by first | (simp; done) | (simp; omega)) (by first | (simp [Value.ownBlock]; done) | (simp [Value.ownBlock]; omega))).trans (Dc.bk_a W.drew _) | exact (World.grownBy.block HG3.out _ (by first | (simp; done) | (simp; omega)) (by first | (simp [Value.ownBlock]; done) | (simp [Value.ownBlock]; omega))).trans (Dc.bk_b W.drew _)) rfl) (Dc.one x)) (by omega) (by unfold maxLen; omega) (by first | exact HB3.out.size | (have := HB3.out.size; simp; omega)) ?_; intro v5 w5 ho5 hb5 hg5; have HB5 := Lib.hid (show Below W.heap.size W w5 from by first | exact HB3.out.trans hb5 | exact (HB3.out.alloc HB3.out.size _).trans hb5); have HO5 := Lib.hid ho5; clear ho5 hb5 hg5)
     | (refine step_appendR (by rfl) _ _ _ _ (by rfl) rwrt (by decide) W.heap.size v5 (by rfl) (0 + k + 1) _ HO5.out v2 (by rfl) (l.length - k) _ (Rd.src rwrt (R2.out.kept HB5.out) (ON2.out)) (by omega) (by unfold maxLen; omega) HB5.out.size ?_; intro v7 w7 ho7 hb7 hg7; have HB7 := Lib.hid (HB5.out.trans hb7); have HO7 := Lib.hid ho7; clear ho7 hb7 hg7))
   all_goals (go_wp2_with fail)
   all_goals go_ret2
   all_goals refine ⟨HAL.out.trans ((show Below w1.heap.size w1 W from hBW).trans (HB7.out.mono hBW.size) |>.mono HAL.out.size), .inr ⟨k, _, rfl, Dc.put_fin hk HO7.out, Dc.ins_sorted HS.out (fun j hj _ => HLO.out j hj) (fun hkl => ?_)⟩⟩
   all_goals exact absurd hkl hlt
end Go.Proofs.YtpcpaoeajcjoiaaGreatDoor
namespace Go.Proofs.YtpcpaoeajcjoiaaGreatDoor
open Go.RowKit Kit
theorem Dc.from_rd {w : World} {A : Option Addr} {c : Nat} {b : List UInt8} (h : RdB w (.slice A b.length c) b) (lo : Nat) (h2 : lo < b.length) :
  ∃ g off cap, (∀ (kl : IntKind) W, (Instr.slice 26 (.slice A b.length c) (some (.int kl (lo : Int))) none none).run Tryz.prog W = .ok (.slice (some ⟨g, off, none⟩) (b.drop lo).length cap) W) ∧
   g < w.heap.size ∧ (b.drop lo).length ≤ cap ∧ cap ≤ maxLen ∧ ∀ j, j < (b.drop lo).length → w.cell? ⟨g, off + j, none⟩ = some (.int .u8 ((b.drop lo).getD j 0).toNat) := by
 obtain ⟨i, hi', hz, hs1, hb1⟩ := bt.info
 have helem : Tryz.prog.elem 26 = 5 := by simp [Program.elem, bt.slice]
 have ht : Tryz.prog.underlying 26 = some (.slice (Tryz.prog.elem 26)) := by rw [helem]; exact bt.slice
 obtain ⟨g, off, c', e, hg, hlc, hcm, hcell⟩ := Dc.rd_at h (by omega)
 injection e with e1 _ e3
 subst e1 e3
 have hlen : (b.drop lo).length = b.length - lo := List.length_drop
 refine ⟨g, off + lo, c - lo, fun kl W => ?_, hg, by omega, by omega, fun j hj => ?_⟩
 ·have hsz : (sizeOf (Tryz.prog.elem 26)).run Tryz.prog W = .ok 1 W := by rw [helem]; simp [sizeOf, typeInfo, hi', hs1]
  rw [run_slice_l (w := W) 26 _ _ _ ht kl lo (by omega) (by omega), hsz]
  show Result.ok (sliced (some ⟨g, off, none⟩) lo b.length c 1) W = _
  unfold sliced
  rw [if_neg (by omega), hlen]
  simp [addr_add]
 ·have e4 : (b.drop lo).getD j 0 = b.getD (lo + j) 0 := by simp [List.getD]
  rw [Nat.add_assoc, hcell (lo + j) (by omega), e4]
theorem hash_bucket (nm : List UInt8) (W : World) (h : nm.length ≤ maxLen) : Calls Tryz.prog 23 #[.string ⟨nm.toArray⟩] W fun e w' => e = .returned (.int .i64 ((Im.bucket nm : Nat) : Int)) ∧ W = w' := hash_ref ⟨nm.toArray⟩ W h
def Dc.RHPost (w : World) (b : List UInt8) (a k : Nat) (e : Ending) (w' : World) : Prop := ∃ H : Dc.H, e = .returned (.tuple #[H.v, .bool (Dc.okR b a k)]) ∧ (Dc.okR b a k = true → H = Dc.here b a) ∧ Below w.heap.size w w'
theorem Dc.RHPost.no {w w' : World} {b : List UInt8} {a k : Nat} (nm : List UInt8) (fl lk xt sz : Nat) (h : Dc.okR b a k = false) (hb : Below w.heap.size w w') :
  Dc.RHPost w b a k (.returned (.tuple #[.agg #[.string ⟨nm.toArray⟩, .int .i64 (fl : Int), .int .u32 (lk : Int), .int .u32 (xt : Int), .int .u32 (sz : Int)], .bool false])) w' :=
 ⟨⟨nm, fl, lk, xt, sz⟩, by rw [h], fun h' => (by rw [h] at h'; cases h'), hb⟩
theorem Dc.RHPost.yes {w w' : World} {b : List UInt8} {a k : Nat} {nm : List UInt8} {fl lk xt sz : Nat} {q : Bool} (h : Dc.okR b a k = q) (hh : Dc.here b a = ⟨nm, fl, lk, xt, sz⟩) (hb : Below w.heap.size w w') :
  Dc.RHPost w b a k (.returned (.tuple #[.agg #[.string ⟨nm.toArray⟩, .int .i64 (fl : Int), .int .u32 (lk : Int), .int .u32 (xt : Int), .int .u32 (sz : Int)], .bool q])) w' :=
 ⟨⟨nm, fl, lk, xt, sz⟩, by rw [h], fun _ => hh.symm, hb⟩
theorem Dc.rh_wraps {a N xt sz len : Nat} (ha : a ≤ 4000) (hN : N ≤ 48) (hx : xt < 4294967296) (hs : sz < 4294967296) (hl : len ≤ 4000) :
  IntKind.i64.wrap (a : Int) = a ∧ IntKind.i64.wrap (xt : Int) = xt ∧ IntKind.i64.wrap (sz : Int) = sz ∧ IntKind.i64.wrap ((a : Int) + (N : Int)) = (a : Int) + N ∧ IntKind.i64.wrap ((a : Int) + (N : Int) + 4) = (a : Int) + N + 4 ∧
  IntKind.i64.wrap ((a : Int) + (N : Int) + 4 - 4) = ((a + N : Nat) : Int) ∧ IntKind.i64.wrap ((len : Int) - ((a : Int) + (N : Int) + 4)) = (len : Int) - ((a : Int) + (N : Int) + 4) := by
 simp only [IntKind.wrap_i64]
 omega
theorem Dc.wrap32 {a : Nat} (ha : a < 4294967296) : IntKind.i64.wrap (a : Int) = a := by
 rw [IntKind.wrap_i64]
 omega
set_option maxRecDepth 100000 in
set_option maxHeartbeats 4000000 in
theorem rhead11 (w : World) (v : Value) (b : List UInt8) (a k : Nat) (hv : RdB w v b) (hb : b.length ≤ 4000) (ha : a < 4294967296) :
  Calls Tryz.prog 76 #[v, .int .u32 (a : Int), .int .i64 (k : Int)] w (Dc.RHPost w b a k) := by
 have hal : Below w.heap.size w (w.alloc (.cells #[.string ⟨#[]⟩, .int .i64 0, .int .u32 0, .int .u32 0, .int .u32 0] 78)) := (Below.refl _ _).alloc (Nat.le_refl _) _
 have hbk := Bk.fresh w 78 #[.string ⟨#[]⟩, .int .i64 0, .int .u32 0, .int .u32 0, .int .u32 0]
 obtain ⟨w1, hw1⟩ : ∃ w1, w.alloc (.cells #[.string ⟨#[]⟩, .int .i64 0, .int .u32 0, .int .u32 0, .int .u32 0] 78) = w1 := ⟨_, rfl⟩
 rw [hw1] at hal hbk
 have HAL := Lib.hid hal
 have HBK := Lib.hid hbk
 have hv1 := hv.below hal
 obtain ⟨A, c, hvf⟩ := hv1.length
 subst hvf
 obtain ⟨r, r1, r2⟩ := Dc.rem4 a
 have wa := Dc.wrap32 ha
 have y0 := hbk.free 0
 have y1 := hbk.free 1
 have y2 := hbk.free 2
 have y3 := hbk.free 3
 have y4 := hbk.free 4
 by_cases h4 : r = 0
 ·subst h4
  have hm4 : ((a : Int) % 4 != 0) = false := by rw [bne_eq_false_iff_eq]; omega
  have hm5 : (a : Int) % 4 = 0 := by omega
  by_cases hlt : a < b.length
  ·have hlt' : ¬ (b.length : Int) ≤ (a : Int) := by omega
   obtain ⟨g, off, cap, hsl, hg, hlc, hcm, hcell⟩ := Dc.from_rd hv1 a hlt
   have CR := read_ref g off cap (b.drop a) w1 hcell hg hlc hcm (by rw [List.length_drop]; omega)
   rw [Dc.readV_eq] at CR
   have CR := Lib.hid CR
   have hok := Dc.okR_eq b a k (by omega) hlt _ rfl _ rfl
   rw [decide_eq_true r2.symm, Bool.true_and] at hok
   have hN := Dc.long_le (b.drop a)
   have hEr : Dc.err (b.drop a) = if Nm.goodB (b.drop a) then 0 else 45 := rfl
   have hhere : Dc.here b a = Dc.hd (b.drop a) := by unfold Dc.here Dc.win; rw [Dc.hd_take]
   have hszx := Dc.sz_lt b a
   have hnl := Dc.name_len b a
   have hwin : Dc.hd (Dc.win b a) = Dc.hd (b.drop a) := hhere
   rw [hwin] at hszx hnl
   clear hwin
   have CW := Lib.hid (fun (W : World) (hW : Below w1.heap.size w1 W) (q : Nat) (hq : q + 4 ≤ b.length) => rword11 W _ b q (hv1.below hW) hq (by omega))
   obtain ⟨Hd, hHd⟩ : ∃ q, Dc.hd (b.drop a) = q := ⟨_, rfl⟩
   rw [hHd] at CR hok hhere hszx hnl
   obtain ⟨nm, fl, lk, xt, sz⟩ := Hd
   dsimp only [Dc.H.v] at CR hok hhere hszx hnl
   generalize Dc.long (b.drop a) = N at *
   generalize Dc.err (b.drop a) = E at *
   generalize Nm.goodB (b.drop a) = gd at *
   generalize (b.drop a).length = Ln at *
   obtain ⟨q1, q2, q3, q4, q5, q6, q7⟩ := Dc.rh_wraps (a := a) (N := N) (xt := xt) (sz := sz) (len := b.length) (by omega) hN hszx.2.1 hszx.1 hb
   have HOK := Lib.hid hok
   have HHERE := Lib.hid hhere
   have CH := Lib.hid (fun W => hash_bucket nm W (by unfold maxLen; omega))
   clear hok hhere hHd hcell hlc hcm hg hv hv1 hbk hal hnl r1 r2 hlt
   generalize Im.bucket nm = bu at *
   go_enter Tryz.func76, Tryz.ntmps76
   go_wp2_with fail
   go_at_call 135
   refine CR.out.mono ?_
   rintro e w3 ⟨rfl, hb3⟩
   have hB3 := HAL.out.trans (hb3.mono HAL.out.size)
   have hK3 := HBK.out.kept hb3
   have hlt3 := hK3.lt
   have hal : Below w3.heap.size w3 (w3.alloc (.cells #[.string ⟨nm.toArray⟩, .int .i64 (fl : Int), .int .u32 (lk : Int), .int .u32 (xt : Int), .int .u32 (sz : Int)] 78)) := (Below.refl _ _).alloc (Nat.le_refl _) _
   have hbk := Bk.fresh w3 78 #[.string ⟨nm.toArray⟩, .int .i64 (fl : Int), .int .u32 (lk : Int), .int .u32 (xt : Int), .int .u32 (sz : Int)]
   have hK4 := hK3.kept hal
   have hB4 := hB3.trans (hal.mono hB3.size)
   have hW4 := hb3.trans (hal.mono hb3.size)
   obtain ⟨w4, hw4⟩ : ∃ w4, w3.alloc (.cells #[.string ⟨nm.toArray⟩, .int .i64 (fl : Int), .int .u32 (lk : Int), .int .u32 (xt : Int), .int .u32 (sz : Int)] 78) = w4 := ⟨_, rfl⟩
   rw [hw4] at hbk hK4 hB4 hW4
   have CV := Lib.hid (fun q hq => CW.out w4 hW4 q hq)
   have x0 := hbk.cell 0
   have x1 := hbk.cell 1
   have x2 := hbk.cell 2
   have x3 := hbk.cell 3
   have x4 := hbk.cell 4
   have y0 := hK4.free 0
   have y1 := hK4.free 1
   have y2 := hK4.free 2
   have y3 := hK4.free 3
   have y4 := hK4.free 4
   have z0 := hK4.cell 0
   have z1 := hK4.cell 1
   have z2 := hK4.cell 2
   have z3 := hK4.cell 3
   have z4 := hK4.cell 4
   have hne : w3.heap.size ≠ w.heap.size := by omega
   have HK4 := Lib.hid hK4
   have HB4 := Lib.hid hB4
   clear hb3 hB3 hK3 hal hbk hK4 hB4 hW4 hlt3 CR
   cases gd
   ·obtain rfl : E = 45 := hEr
    have HNO := Lib.hid (show Dc.okR b a k = false from by rw [HOK.out]; rfl)
    clear hszx hN
    go_wp2_with (fail)
    have hk5 := ((((HK4.out.set 0 (.string ⟨nm.toArray⟩)).set 1 (.int .i64 (fl : Int))).set 2 (.int .u32 (lk : Int))).set 3 (.int .u32 (xt : Int))).set 4 (.int .u32 (sz : Int))
    have p0 := hk5.cell 0
    have p1 := hk5.cell 1
    have p2 := hk5.cell 2
    have p3 := hk5.cell 3
    have p4 := hk5.cell 4
    refine bodyPost_ret (v := .tuple #[.agg #[.string ⟨nm.toArray⟩, .int .i64 (fl : Int), .int .u32 (lk : Int), .int .u32 (xt : Int), .int .u32 (sz : Int)], .bool false]) (by simp [results, Tryz.results76, go_sem, p0, p1, p2, p3, p4]) rfl ?_
    exact Dc.RHPost.no nm fl lk xt sz HNO.out (((((HB4.out.setCell (Nat.le_refl _) _).setCell (Nat.le_refl _) _).setCell (Nat.le_refl _) _).setCell (Nat.le_refl _) _).setCell (Nat.le_refl _) _)
   ·obtain rfl : E = 0 := hEr
    by_cases hbu : bu = k
    ·have hbu' : ((bu : Int) != (k : Int)) = false := by rw [bne_eq_false_iff_eq]; omega
     by_cases hxt : xt = a + N + 4
     ·have hxi : (a : Int) + (N : Int) + 4 = (xt : Int) := by omega
      have q5' : IntKind.i64.wrap ((a : Int) + (N : Int) + 4) = (xt : Int) := q5.trans hxi
      rw [hxi] at q6 q7
      clear q5
      have HXI := Lib.hid hxi
      clear hxi
      by_cases hle : a + N + 4 ≤ b.length
      ·have hle' : ¬ ((b.length : Int) < (xt : Int)) := by omega
       obtain ⟨qn, hqn⟩ : ∃ q, a + N = q := ⟨_, rfl⟩
       rw [hqn] at q6
       have HQ := Lib.hid hle
       obtain ⟨wt, hwt⟩ : ∃ q, Nm.wat b (a + N) = q := ⟨_, rfl⟩
       have CV2 := CV.out (a + N) hle
       rw [hwt] at CV2 HOK
       rw [hqn] at CV2
       have HXT := Lib.hid hxt
       clear hqn hwt hxt HQ
       by_cases hwa : wt = a
       ·rw [hwa] at CV2
        have CV2 := Lib.hid CV2
        by_cases hfi : a + N + 4 + sz ≤ b.length
        ·have hfi' : decide ((sz : Int) ≤ (b.length : Int) - (xt : Int)) = true := by have := HXI.out; rw [decide_eq_true_iff]; omega
         have HYES := Lib.hid (show Dc.okR b a k = true from by rw [HOK.out, decide_eq_true hbu, decide_eq_true HXT.out, decide_eq_true hle, decide_eq_true hwa, decide_eq_true hfi]; rfl)
         clear hszx hN hwa hle hbu hfi
         go_wp2_with (first | (go_at_call 23; refine (CH.out _).mono ?_; rintro e w' ⟨rfl, rfl⟩) | (go_at_call 75; refine CV2.out.mono ?_; rintro e w' ⟨rfl, rfl⟩))
         go_region
         all_goals (go_wp2_with fail)
         have hk5 := ((((HK4.out.set 0 (.string ⟨nm.toArray⟩)).set 1 (.int .i64 (fl : Int))).set 2 (.int .u32 (lk : Int))).set 3 (.int .u32 (xt : Int))).set 4 (.int .u32 (sz : Int))
         have p0 := hk5.cell 0
         have p1 := hk5.cell 1
         have p2 := hk5.cell 2
         have p3 := hk5.cell 3
         have p4 := hk5.cell 4
         refine bodyPost_ret (v := .tuple #[.agg #[.string ⟨nm.toArray⟩, .int .i64 (fl : Int), .int .u32 (lk : Int), .int .u32 (xt : Int), .int .u32 (sz : Int)], .bool true]) (by simp [results, Tryz.results76, go_sem, p0, p1, p2, p3, p4]) rfl ?_
         exact Dc.RHPost.yes HYES.out HHERE.out (by first | exact (((((HB4.out.setCell (Nat.le_refl _) _).setCell (Nat.le_refl _) _).setCell (Nat.le_refl _) _).setCell (Nat.le_refl _) _).setCell (Nat.le_refl _) _).drew.drew | exact (((((HB4.out.setCell (Nat.le_refl _) _).setCell (Nat.le_refl _) _).setCell (Nat.le_refl _) _).setCell (Nat.le_refl _) _).setCell (Nat.le_refl _) _).drew | exact ((((HB4.out.setCell (Nat.le_refl _) _).setCell (Nat.le_refl _) _).setCell (Nat.le_refl _) _).setCell (Nat.le_refl _) _).setCell (Nat.le_refl _) _)
        ·have hfi' : decide ((sz : Int) ≤ (b.length : Int) - (xt : Int)) = false := by have := HXI.out; rw [decide_eq_false_iff_not]; omega
         have HYES := Lib.hid (show Dc.okR b a k = false from by rw [HOK.out, decide_eq_true hbu, decide_eq_true HXT.out, decide_eq_true hle, decide_eq_true hwa, decide_eq_false hfi]; rfl)
         clear hszx hN hwa hle hbu hfi
         go_wp2_with (first | (go_at_call 23; refine (CH.out _).mono ?_; rintro e w' ⟨rfl, rfl⟩) | (go_at_call 75; refine CV2.out.mono ?_; rintro e w' ⟨rfl, rfl⟩))
         go_region
         all_goals (go_wp2_with fail)
         have hk5 := ((((HK4.out.set 0 (.string ⟨nm.toArray⟩)).set 1 (.int .i64 (fl : Int))).set 2 (.int .u32 (lk : Int))).set 3 (.int .u32 (xt : Int))).set 4 (.int .u32 (sz : Int))
         have p0 := hk5.cell 0
         have p1 := hk5.cell 1
         have p2 := hk5.cell 2
         have p3 := hk5.cell 3
         have p4 := hk5.cell 4
         refine bodyPost_ret (v := .tuple #[.agg #[.string ⟨nm.toArray⟩, .int .i64 (fl : Int), .int .u32 (lk : Int), .int .u32 (xt : Int), .int .u32 (sz : Int)], .bool false]) (by simp [results, Tryz.results76, go_sem, p0, p1, p2, p3, p4]) rfl ?_
         exact Dc.RHPost.yes HYES.out HHERE.out (by first | exact (((((HB4.out.setCell (Nat.le_refl _) _).setCell (Nat.le_refl _) _).setCell (Nat.le_refl _) _).setCell (Nat.le_refl _) _).setCell (Nat.le_refl _) _).drew.drew | exact (((((HB4.out.setCell (Nat.le_refl _) _).setCell (Nat.le_refl _) _).setCell (Nat.le_refl _) _).setCell (Nat.le_refl _) _).setCell (Nat.le_refl _) _).drew | exact ((((HB4.out.setCell (Nat.le_refl _) _).setCell (Nat.le_refl _) _).setCell (Nat.le_refl _) _).setCell (Nat.le_refl _) _).setCell (Nat.le_refl _) _)
       ·have hwa' : ((wt : Int) != (a : Int)) = true := by rw [bne_iff_ne]; omega
        have CV2 := Lib.hid CV2
        have HNO := Lib.hid (show Dc.okR b a k = false from by rw [HOK.out]; rw [decide_eq_true hbu, decide_eq_true HXT.out, decide_eq_true hle, decide_eq_false hwa]; rfl)
        clear hszx hN hwa hbu
        go_wp2_with (first | (go_at_call 23; refine (CH.out _).mono ?_; rintro e w' ⟨rfl, rfl⟩) | (go_at_call 75; refine CV2.out.mono ?_; rintro e w' ⟨rfl, rfl⟩))
        have hk5 := ((((HK4.out.set 0 (.string ⟨nm.toArray⟩)).set 1 (.int .i64 (fl : Int))).set 2 (.int .u32 (lk : Int))).set 3 (.int .u32 (xt : Int))).set 4 (.int .u32 (sz : Int))
        have p0 := hk5.cell 0
        have p1 := hk5.cell 1
        have p2 := hk5.cell 2
        have p3 := hk5.cell 3
        have p4 := hk5.cell 4
        refine bodyPost_ret (v := .tuple #[.agg #[.string ⟨nm.toArray⟩, .int .i64 (fl : Int), .int .u32 (lk : Int), .int .u32 (xt : Int), .int .u32 (sz : Int)], .bool false]) (by simp [results, Tryz.results76, go_sem, p0, p1, p2, p3, p4]) rfl ?_
        exact Dc.RHPost.no nm fl lk xt sz HNO.out ((((((HB4.out.setCell (Nat.le_refl _) _).setCell (Nat.le_refl _) _).setCell (Nat.le_refl _) _).setCell (Nat.le_refl _) _).setCell (Nat.le_refl _) _).drew)
      ·have hle' : (b.length : Int) < (xt : Int) := by omega
       have HNO := Lib.hid (show Dc.okR b a k = false from by rw [HOK.out]; rw [decide_eq_true hbu, decide_eq_true hxt, decide_eq_false hle]; rfl)
       clear hszx hN hxt hbu
       go_wp2_with ((go_at_call 23; refine (CH.out _).mono ?_; rintro e w' ⟨rfl, rfl⟩))
       have hk5 := ((((HK4.out.set 0 (.string ⟨nm.toArray⟩)).set 1 (.int .i64 (fl : Int))).set 2 (.int .u32 (lk : Int))).set 3 (.int .u32 (xt : Int))).set 4 (.int .u32 (sz : Int))
       have p0 := hk5.cell 0
       have p1 := hk5.cell 1
       have p2 := hk5.cell 2
       have p3 := hk5.cell 3
       have p4 := hk5.cell 4
       refine bodyPost_ret (v := .tuple #[.agg #[.string ⟨nm.toArray⟩, .int .i64 (fl : Int), .int .u32 (lk : Int), .int .u32 (xt : Int), .int .u32 (sz : Int)], .bool false]) (by simp [results, Tryz.results76, go_sem, p0, p1, p2, p3, p4]) rfl ?_
       exact Dc.RHPost.no nm fl lk xt sz HNO.out (((((HB4.out.setCell (Nat.le_refl _) _).setCell (Nat.le_refl _) _).setCell (Nat.le_refl _) _).setCell (Nat.le_refl _) _).setCell (Nat.le_refl _) _)
     ·have hxt' : (((a : Int) + (N : Int) + 4) != (xt : Int)) = true := by rw [bne_iff_ne]; omega
      have HNO := Lib.hid (show Dc.okR b a k = false from by rw [HOK.out]; rw [decide_eq_true hbu, decide_eq_false hxt]; rfl)
      clear hszx hN
      go_wp2_with ((go_at_call 23; refine (CH.out _).mono ?_; rintro e w' ⟨rfl, rfl⟩))
      have hk5 := ((((HK4.out.set 0 (.string ⟨nm.toArray⟩)).set 1 (.int .i64 (fl : Int))).set 2 (.int .u32 (lk : Int))).set 3 (.int .u32 (xt : Int))).set 4 (.int .u32 (sz : Int))
      have p0 := hk5.cell 0
      have p1 := hk5.cell 1
      have p2 := hk5.cell 2
      have p3 := hk5.cell 3
      have p4 := hk5.cell 4
      refine bodyPost_ret (v := .tuple #[.agg #[.string ⟨nm.toArray⟩, .int .i64 (fl : Int), .int .u32 (lk : Int), .int .u32 (xt : Int), .int .u32 (sz : Int)], .bool false]) (by simp [results, Tryz.results76, go_sem, p0, p1, p2, p3, p4]) rfl ?_
      exact Dc.RHPost.no nm fl lk xt sz HNO.out (((((HB4.out.setCell (Nat.le_refl _) _).setCell (Nat.le_refl _) _).setCell (Nat.le_refl _) _).setCell (Nat.le_refl _) _).setCell (Nat.le_refl _) _)
    ·have hbu' : ((bu : Int) != (k : Int)) = true := by rw [bne_iff_ne]; omega
     have HNO := Lib.hid (show Dc.okR b a k = false from by rw [HOK.out]; rw [decide_eq_false hbu]; rfl)
     clear hszx hN
     go_wp2_with ((go_at_call 23; refine (CH.out _).mono ?_; rintro e w' ⟨rfl, rfl⟩))
     have hk5 := ((((HK4.out.set 0 (.string ⟨nm.toArray⟩)).set 1 (.int .i64 (fl : Int))).set 2 (.int .u32 (lk : Int))).set 3 (.int .u32 (xt : Int))).set 4 (.int .u32 (sz : Int))
     have p0 := hk5.cell 0
     have p1 := hk5.cell 1
     have p2 := hk5.cell 2
     have p3 := hk5.cell 3
     have p4 := hk5.cell 4
     refine bodyPost_ret (v := .tuple #[.agg #[.string ⟨nm.toArray⟩, .int .i64 (fl : Int), .int .u32 (lk : Int), .int .u32 (xt : Int), .int .u32 (sz : Int)], .bool false]) (by simp [results, Tryz.results76, go_sem, p0, p1, p2, p3, p4]) rfl ?_
     exact Dc.RHPost.no nm fl lk xt sz HNO.out (((((HB4.out.setCell (Nat.le_refl _) _).setCell (Nat.le_refl _) _).setCell (Nat.le_refl _) _).setCell (Nat.le_refl _) _).setCell (Nat.le_refl _) _)
  ·have hlt' : (b.length : Int) ≤ (a : Int) := by omega
   have HNO := Lib.hid (Dc.okR_out b a k (by omega))
   clear hv hv1 hbk hal r1 r2
   have hk5 := ((((HBK.out.set 0 (.string ⟨#[]⟩)).set 1 (.int .i64 0)).set 2 (.int .u32 0)).set 3 (.int .u32 0)).set 4 (.int .u32 0)
   have z0 := HBK.out.cell 0
   have z1 := HBK.out.cell 1
   have z2 := HBK.out.cell 2
   have z3 := HBK.out.cell 3
   have z4 := HBK.out.cell 4
   have p0 := hk5.cell 0
   have p1 := hk5.cell 1
   have p2 := hk5.cell 2
   have p3 := hk5.cell 3
   have p4 := hk5.cell 4
   go_enter Tryz.func76, Tryz.ntmps76
   go_wp2_with fail
   refine bodyPost_ret (v := .tuple #[.agg #[.string ⟨#[]⟩, .int .i64 0, .int .u32 0, .int .u32 0, .int .u32 0], .bool false]) (by simp [results, Tryz.results76, go_sem, p0, p1, p2, p3, p4]) rfl ?_
   exact Dc.RHPost.no [] 0 0 0 0 HNO.out (((((HAL.out.setCell (Nat.le_refl _) _).setCell (Nat.le_refl _) _).setCell (Nat.le_refl _) _).setCell (Nat.le_refl _) _).setCell (Nat.le_refl _) _)
 ·have hm4 : ((a : Int) % 4 != 0) = true := by rw [bne_iff_ne]; omega
  have HNO := Lib.hid (Dc.okR_askew b a k (by omega))
  clear hv hv1 hbk hal r1 r2
  have hk5 := ((((HBK.out.set 0 (.string ⟨#[]⟩)).set 1 (.int .i64 0)).set 2 (.int .u32 0)).set 3 (.int .u32 0)).set 4 (.int .u32 0)
  have z0 := HBK.out.cell 0
  have z1 := HBK.out.cell 1
  have z2 := HBK.out.cell 2
  have z3 := HBK.out.cell 3
  have z4 := HBK.out.cell 4
  have p0 := hk5.cell 0
  have p1 := hk5.cell 1
  have p2 := hk5.cell 2
  have p3 := hk5.cell 3
  have p4 := hk5.cell 4
  go_enter Tryz.func76, Tryz.ntmps76
  go_wp2_with fail
  refine bodyPost_ret (v := .tuple #[.agg #[.string ⟨#[]⟩, .int .i64 0, .int .u32 0, .int .u32 0, .int .u32 0], .bool false]) (by simp [results, Tryz.results76, go_sem, p0, p1, p2, p3, p4]) rfl ?_
  exact Dc.RHPost.no [] 0 0 0 0 HNO.out (((((HAL.out.setCell (Nat.le_refl _) _).setCell (Nat.le_refl _) _).setCell (Nat.le_refl _) _).setCell (Nat.le_refl _) _).setCell (Nat.le_refl _) _)
end Go.Proofs.YtpcpaoeajcjoiaaGreatDoor
namespace Go.Proofs.YtpcpaoeajcjoiaaGreatDoor
open Go.RowKit Kit
def Dc.RPost (w : World) (b : List UInt8) (heads : Nat) (e : Ending) (w' : World) : Prop :=
  Below w.heap.size w w' ∧
  ((¬ Dc.fits b heads ∧ e = .returned (.tuple #[.slice none 0 0, .int .i64 1])) ∨
   (Dc.fits b heads ∧ (∀ l, ¬ Dc.Good b heads l) ∧ e = .returned (.tuple #[.slice none 0 0, .int .i64 45])) ∨
   (Dc.fits b heads ∧ ∃ l l' v, Dc.Good b heads l ∧ l'.Perm l ∧ l'.Pairwise (fun x y => x.at_ < y.at_) ∧ e = .returned (.tuple #[v, .int .i64 0]) ∧ RdD w' v l'))
structure Dc.So (W : World) (v : Value) (pre out : List Dc.Wd) : Prop where
 rd : RdD W v out
 perm : out.Perm pre
 sorted : out.Pairwise (fun x y => x.at_ < y.at_)
 most : out.length ≤ 4096
theorem Dc.So.kept {W W' : World} {v : Value} {pre out : List Dc.Wd} (h : Dc.So W v pre out) (hb : Below W.heap.size W W') : Dc.So W' v pre out := ⟨Rd.kept h.rd hb, h.perm, h.sorted, h.most⟩
theorem Dc.So.nil (W : World) : Dc.So W (.slice none 0 0) [] [] := ⟨Rd.nil _ _, .refl _, .nil, by simp⟩
theorem Dc.nodup_sorted {l : List Dc.Wd} (h : l.Pairwise (fun x y => x.at_ < y.at_)) : (l.map Dc.Wd.at_).Nodup := by
 rw [List.Nodup, List.pairwise_map]
 exact h.imp fun h => Nat.ne_of_lt h
theorem Dc.So.good {W : World} {v : Value} {pre out : List Dc.Wd} {b : List UInt8} {heads : Nat} (h : Dc.So W v pre out) (ha : Dc.all b heads = some pre) : Dc.Good b heads pre :=
 ⟨ha, by rw [← h.perm.length_eq]; exact h.most, ((h.perm.map _).nodup_iff).1 (Dc.nodup_sorted h.sorted)⟩
theorem Dc.So.twice {W : World} {v : Value} {pre out : List Dc.Wd} {b : List UInt8} {heads k a last : Nat} (h : Dc.So W v pre out) (hi : Dc.In b heads pre k a last) (ha : a ≠ 0) (hok : Dc.ok b (k % 16) a last = true) (hd : ∃ y ∈ out, y.at_ = a) : ∀ l, ¬ Dc.Good b heads l := by
 rintro l ⟨hl, _, hn⟩
 obtain ⟨y, hy, hya⟩ := hd
 have hs := hi.step ha hok
 unfold Dc.In at hs
 rw [hl] at hs
 obtain ⟨c, _, rfl⟩ := Option.map_eq_some_iff.1 hs.symm
 rw [List.map_append, List.map_append] at hn
 have h1 := (List.nodup_append.1 hn).1
 have h2 := (List.nodup_append.1 h1).2.2 a (List.mem_map.2 ⟨y, h.perm.mem_iff.1 hy, hya⟩) a (by simp)
 exact h2 rfl
theorem Dc.So.much {W : World} {v : Value} {pre out : List Dc.Wd} {b : List UInt8} {heads k a last : Nat} (h : Dc.So W v pre out) (hi : Dc.In b heads pre k a last) (ha : a ≠ 0) (hok : Dc.ok b (k % 16) a last = true) (hm : 4096 < out.length + 1) : ∀ l, ¬ Dc.Good b heads l := by
 rintro l ⟨hl, hx, _⟩
 have := hi.full ha hok (by rw [← h.perm.length_eq]; omega) l hl
 omega
theorem Dc.So.put {W W' : World} {v v' : Value} {pre out : List Dc.Wd} {k : Nat} {x : Dc.Wd} (h : Dc.So W v pre out) (hm : (Dc.ins out k x).length ≤ 4096) (hr : RdD W' v' (Dc.ins out k x)) (hs : (Dc.ins out k x).Pairwise (fun x y => x.at_ < y.at_)) : Dc.So W' v' (pre ++ [x]) (Dc.ins out k x) := by
 refine ⟨hr, ?_, hs, hm⟩
 refine (Dc.ins_perm out k x).trans ?_
 refine (List.Perm.cons x h.perm).trans ?_
 exact (List.perm_append_comm (l₁ := [x])).trans (List.Perm.refl _)
theorem Dc.k4i {heads k : Nat} (hh : heads < 4294967296) (h : k < 32) : IntKind.i64.wrap (heads : Int) = heads ∧ IntKind.i64.wrap (4 * (k : Int)) = 4 * (k : Int) ∧ IntKind.i64.wrap ((heads : Int) + 4 * (k : Int)) = ((heads + 4 * k : Nat) : Int) ∧ IntKind.i64.wrap ((k : Int) + 1) = (k : Int) + 1 := by
 simp only [IntKind.wrap_i64]
 omega
set_option maxRecDepth 100000 in
set_option maxHeartbeats 4000000 in
theorem rread11 (w : World) (v : Value) (b : List UInt8) (heads : Nat) (hh : heads < 4294967296) (hv : RdB w v b) (hb : b.length ≤ 4000) :
  Calls Tryz.prog 32 #[v, .int .u32 (heads : Int)] w (Dc.RPost w b heads) := by
 obtain ⟨A, c, hvf⟩ := hv.length
 subst hvf
 have HV := Lib.hid hv
 have HB := Lib.hid hb
 clear hv
 have w0 := Dc.wrap32 hh
 have w1 : IntKind.i64.wrap ((b.length : Int) - 128) = (b.length : Int) - 128 := by rw [IntKind.wrap_i64]; omega
 by_cases hf : Dc.fits b heads
 ·obtain ⟨c1, c2, c3⟩ := hf
  have HF := Lib.hid (show Dc.fits b heads from ⟨c1, c2, c3⟩)
  have c1' : decide ((b.length : Int) < 128) = false := by rw [decide_eq_false_iff_not]; omega
  have c2' : ((heads : Int) % 4 != 0) = false := by rw [bne_eq_false_iff_eq]; omega
  have c3' : decide ((b.length : Int) - 128 < (heads : Int)) = false := by rw [decide_eq_false_iff_not]; omega
  have HH := Lib.hid hh
  clear c1 c2 c3 hb hh
  go_enter Tryz.func32, Tryz.ntmps32
  go_wp2_with fail
  go_loopw [6, 7] (fun o i wr => ∃ (k : Nat) (pre out : List Dc.Wd), k ≤ 32 ∧ i = .int .i64 (k : Int) ∧ Dc.At b heads pre k ∧ Dc.So wr o pre out ∧ Below w.heap.size w wr) (fun _ i _ => 32 - (intOf i).toNat)
  case atStart => exact ⟨0, [], [], by decide, rfl, Dc.At.start b heads, Dc.So.nil _, Below.refl _ _⟩
  case round =>
   obtain ⟨k, pre, out, hk, rfl, hat, hso, hbr⟩ := hrel
   by_cases hlt : k < 32
   ·have hlt' : (k : Int) < 32 := by omega
    obtain ⟨e1, e2, e3, e4⟩ := Dc.k4i HH.out hlt
    have CW := Lib.hid (rword11 wr _ b (heads + 4 * k) (HV.out.below hbr) (by have := HF.out.2.2; omega) (by have := HB.out; omega))
    have HFI := Lib.hid (show Nm.wat b (heads + 4 * k) = Dc.first b heads k from by
     unfold Dc.first Dc.wd
     have h1 := HF.out.2.2
     have h2 := HB.out
     rw [Nat.mod_eq_of_lt (by omega), if_pos (by omega), Option.getD_some])
    have hfl := Dc.first_lt b heads k
    have HIN := Lib.hid (hat.into hlt)
    have HSO := Lib.hid hso
    have HBR := Lib.hid hbr
    have HK := Lib.hid hlt
    rw [HFI.out] at CW
    generalize Dc.first b heads k = fi at *
    generalize heads + 4 * k = hk4 at *
    clear hat hso hbr hlt HFI hk
    go_wp2_with (go_at_call 75; refine CW.out.mono ?_; rintro e w2 ⟨rfl, rfl⟩)
    go_loopw [6, 8, 9] (fun o la a wx => ∃ (pre out : List Dc.Wd) (ln an : Nat), la = .int .u32 (ln : Int) ∧ a = .int .u32 (an : Int) ∧ an < 4294967296 ∧ Dc.In b heads pre k an ln ∧ Dc.So wx o pre out ∧ Below w.heap.size w wx) (fun _ la _ _ => (intOf la).toNat)
    case atStart => exact ⟨pre, out, 4294967295, fi, rfl, rfl, hfl, HIN.out, HSO.out.kept (Below.refl _ _).drew, HBR.out.drew⟩
    case round =>
     clear HIN HSO HBR
     obtain ⟨pre, out, ln, an, rfl, rfl, han, hin, hso, hbr⟩ := hrel
     have HBX := Lib.hid hbr
     have HSO := Lib.hid hso
     have HIN := Lib.hid hin
     have HAN := Lib.hid han
     have hout := hso.most
     by_cases h0 : an = 0
     ·subst h0
      have HAT := Lib.hid hin.out
      clear hbr hso hin han hout
      go_wp2_with fail
      go_roundw
      case rel => exact ⟨k + 1, pre, out, by have := HK.out; omega, by push_cast; rfl, HAT.out, HSO.out, HBX.out⟩
      case measure =>
       have := HK.out
       simp only [intOf]
       omega
     ·have hne : ((an : Int) != 0) = true := by rw [bne_iff_ne]; omega
      have CH := Lib.hid (show Calls Tryz.prog 76 #[.slice A b.length c, .int .u32 (an : Int), .int .i64 ((k : Int) % 16)] wr (Dc.RHPost wr b an (k % 16)) from by
       rw [show (k : Int) % 16 = ((k % 16 : Nat) : Int) by omega]
       exact rhead11 wr _ b an (k % 16) (HV.out.below hbr) HB.out han)
      have HSZ := Lib.hid (Dc.sz_lt b an)
      have HN0 := Lib.hid h0
      clear hbr hso hin han h0
      have HRD := Lib.hid HSO.out.rd
      obtain ⟨A2, c2, rfl⟩ := Rd.form HRD.out
      cases hok : Dc.ok b (k % 16) an ln
      ·have HBAD := Lib.hid (show ∀ l, ¬ Dc.Good b heads l from fun l hl => by
        have h1 := HIN.out.bad HN0.out hok
        rw [hl.all] at h1
        cases h1)
       have hok2 : (Dc.okR b an (k % 16) && decide (an < ln)) = false := hok
       clear hok
       cases hr : Dc.okR b an (k % 16)
       ·go_wp2_with (go_at_call 76; refine CH.out.mono ?_; rintro e w3 ⟨⟨nm, fl, lk, xt, sz⟩, rfl, hhere, hb3⟩; rw [hr]; clear hhere)
        go_ret2
        exact ⟨(HBX.out.trans (hb3.mono HBX.out.size)).alloc (Nat.le_trans HBX.out.size hb3.size) _, .inr (.inl ⟨HF.out, HBAD.out, rfl⟩)⟩
       ·have hge : (ln : Int) ≤ (an : Int) := by
         rw [hr, Bool.true_and] at hok2
         have := of_decide_eq_false hok2
         omega
        clear hok2
        go_wp2_with (go_at_call 76; refine CH.out.mono ?_; rintro e w3 ⟨⟨nm, fl, lk, xt, sz⟩, rfl, hhere, hb3⟩; rw [hr]; clear hhere)
        go_ret2
        exact ⟨(HBX.out.trans (hb3.mono HBX.out.size)).alloc (Nat.le_trans HBX.out.size hb3.size) _, .inr (.inl ⟨HF.out, HBAD.out, rfl⟩)⟩
      ·have hok2 : (Dc.okR b an (k % 16) && decide (an < ln)) = true := hok
       simp only [Bool.and_eq_true, decide_eq_true_eq] at hok2
       obtain ⟨hr, hlt2⟩ := hok2
       have HOK := Lib.hid hok
       have hlt3 : ¬ (ln : Int) ≤ (an : Int) := by omega
       clear hok
       go_wp2_with (go_at_call 76; refine CH.out.mono ?_; rintro e w3 ⟨⟨nm, fl, lk, xt, sz⟩, rfl, hhere, hb3⟩; have HHE := Lib.hid (hhere hr); clear hhere; rw [hr])
       have hB4 : Below wr.heap.size wr (w3.alloc (.cells #[.string ⟨nm.toArray⟩, .int .i64 (fl : Int), .int .u32 (lk : Int), .int .u32 (xt : Int), .int .u32 (sz : Int)] 78)) := hb3.alloc hb3.size _
       have hbk := Bk.fresh w3 78 #[.string ⟨nm.toArray⟩, .int .i64 (fl : Int), .int .u32 (lk : Int), .int .u32 (xt : Int), .int .u32 (sz : Int)]
       have HZ := Lib.hid (show w3.heap.size < (w3.alloc (.cells #[.string ⟨nm.toArray⟩, .int .i64 (fl : Int), .int .u32 (lk : Int), .int .u32 (xt : Int), .int .u32 (sz : Int)] 78)).heap.size from by simp)
       obtain ⟨w4, hw4⟩ : ∃ w4, w3.alloc (.cells #[.string ⟨nm.toArray⟩, .int .i64 (fl : Int), .int .u32 (lk : Int), .int .u32 (xt : Int), .int .u32 (sz : Int)] 78) = w4 := ⟨_, rfl⟩
       rw [hw4] at hB4 hbk HZ ⊢
       have HBK := Lib.hid hbk
       have CP := Lib.hid (show Calls Tryz.prog 77 #[.slice A2 out.length c2, .agg #[.int .i64 ((k : Int) / 16), .int .u32 (an : Int), .string ⟨nm.toArray⟩, .int .i64 (fl : Int), .int .u32 (lk : Int), .int .u32 (xt : Int), .int .u32 (sz : Int)]] w4 (Dc.RPPost w4 out ⟨k / 16, an, ⟨nm, fl, lk, xt, sz⟩⟩) from by
        rw [show (k : Int) / 16 = ((k / 16 : Nat) : Int) by omega]
        exact rput11 w4 _ out ⟨k / 16, an, ⟨nm, fl, lk, xt, sz⟩⟩ (Rd.kept HRD.out hB4) (by omega) HSO.out.sorted)
       have HB4 := Lib.hid (HBX.out.trans (hB4.mono HBX.out.size))
       have HLT := Lib.hid hlt2
       have HST := Lib.hid (show Dc.In b heads (pre ++ [⟨k / 16, an, ⟨nm, fl, lk, xt, sz⟩⟩]) k lk an ∧ lk < 4294967296 from by
        have h1 := HIN.out.step HN0.out HOK.out
        have h2 := HSZ.out.2.2
        rw [← HHE.out] at h1
        rw [show Dc.hd (Dc.win b an) = ⟨nm, fl, lk, xt, sz⟩ from HHE.out.symm] at h2
        exact ⟨h1, h2⟩)
       clear hb3 hB4 hbk hw4 hlt2 hlt3 hr
       go_at_call 77
       refine CP.out.mono ?_
       rintro e w5 ⟨hb5, hcase⟩
       have HB5 := Lib.hid (HB4.out.trans (hb5.mono HB4.out.size))
       rcases hcase with ⟨hdup, v', rfl⟩ | ⟨kk, v', rfl, hrd5, hso5⟩
       ·have HBAD := Lib.hid (HSO.out.twice HIN.out HN0.out HOK.out hdup)
        clear hdup hb5
        go_wp2_with fail
        go_ret2
        exact ⟨HB5.out, .inr (.inl ⟨HF.out, HBAD.out, rfl⟩)⟩
       ·have z2 := (HBK.out.kept hb5).cell 2
        have HR5 := Lib.hid hrd5
        have HS5 := Lib.hid hso5
        obtain ⟨A5, c5, rfl⟩ := Rd.form hrd5
        by_cases hbig : 4096 < (Dc.ins out kk ⟨k / 16, an, ⟨nm, fl, lk, xt, sz⟩⟩).length
        ·have HBAD := Lib.hid (HSO.out.much HIN.out HN0.out HOK.out (by rw [Dc.ins_len] at hbig; exact hbig))
         have hbig' : (4096 : Int) < ((Dc.ins out kk ⟨k / 16, an, ⟨nm, fl, lk, xt, sz⟩⟩).length : Int) := by omega
         clear hrd5 hso5 hb5 hbig
         generalize (Dc.ins out kk ⟨k / 16, an, ⟨nm, fl, lk, xt, sz⟩⟩).length = nn at *
         go_wp2_with fail
         go_ret2
         exact ⟨HB5.out, .inr (.inl ⟨HF.out, HBAD.out, rfl⟩)⟩
        ·have hbig' : ¬ (4096 : Int) < ((Dc.ins out kk ⟨k / 16, an, ⟨nm, fl, lk, xt, sz⟩⟩).length : Int) := by omega
         have HSO5 := Lib.hid (HSO.out.put (by omega) HR5.out HS5.out)
         clear hrd5 hso5 hb5 hbig
         generalize (Dc.ins out kk ⟨k / 16, an, ⟨nm, fl, lk, xt, sz⟩⟩).length = nn at *
         go_wp2_with fail
         go_roundw
         case rel => exact ⟨_, _, an, lk, rfl, rfl, HST.out.2, HST.out.1, HSO5.out, HB5.out⟩
         case measure =>
          have := HLT.out
          simp only [intOf]
          omega
   ·have HG := Lib.hid (hso.good (hat.done (by omega)))
    have hk32 : ¬ (k : Int) < 32 := by omega
    have HSO := Lib.hid hso
    have HBR := Lib.hid hbr
    clear hso hat hbr hlt hk
    go_wp2_with fail
    go_ret2
    exact ⟨HBR.out, .inr (.inr ⟨HF.out, pre, out, _, HG.out, HSO.out.perm, HSO.out.sorted, rfl, HSO.out.rd⟩)⟩
 ·have HF := Lib.hid hf
  by_cases c1 : b.length < 128
  ·have c1' : decide ((b.length : Int) < 128) = true := by rw [decide_eq_true_iff]; omega
   clear c1 hb hh hf
   go_enter Tryz.func32, Tryz.ntmps32
   go_wp2_with fail
   go_ret2
   exact ⟨Below.refl _ _, .inl ⟨HF.out, rfl⟩⟩
  ·have c1' : decide ((b.length : Int) < 128) = false := by rw [decide_eq_false_iff_not]; omega
   by_cases c2 : heads % 4 = 0
   ·have c2' : ((heads : Int) % 4 != 0) = false := by rw [bne_eq_false_iff_eq]; omega
    have c3' : decide ((b.length : Int) - 128 < (heads : Int)) = true := by
     rw [decide_eq_true_iff]
     have : ¬ (heads + 128 ≤ b.length) := fun h => hf ⟨by omega, c2, h⟩
     omega
    clear c1 c2 hb hh hf
    go_enter Tryz.func32, Tryz.ntmps32
    go_wp2_with fail
    go_ret2
    exact ⟨Below.refl _ _, .inl ⟨HF.out, rfl⟩⟩
   ·have c2' : ((heads : Int) % 4 != 0) = true := by rw [bne_iff_ne]; omega
    clear c1 c2 hb hh hf
    go_enter Tryz.func32, Tryz.ntmps32
    go_wp2_with fail
    go_ret2
    exact ⟨Below.refl _ _, .inl ⟨HF.out, rfl⟩⟩
end Go.Proofs.YtpcpaoeajcjoiaaGreatDoor
