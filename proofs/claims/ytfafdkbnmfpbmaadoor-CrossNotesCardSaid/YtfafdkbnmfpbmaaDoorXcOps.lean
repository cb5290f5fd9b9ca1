/- Layer 12: what the compiler does to its words: put, push, unless, leave, here, label, wait, close. -/
import Derived.Test.YtfafdkbnmfpbmaaDoorXcNext
import Derived.Test.YtfafdkbnmfpbmaaDoorXcPlain
namespace Go.Proofs.YtfafdkbnmfpbmaaDoor
open Go.RowKit Kit
set_option linter.unusedVariables false
set_option linter.unusedSimpArgs false

/-- A new row of texts. -/
theorem rd_new {W : World} {g : Nat} (l : List (List UInt8)) (h : Bk W g 9 (L6.sv l).toArray) (hn : l.length ≤ 1000000) : RdS W (.slice (some ⟨g, 0, none⟩) l.length l.length) l :=
  ⟨by simp [L6.sv], _, l.length, rfl, Nat.le_refl _, by unfold maxLen; omega, fun _ => ⟨g, 0, rfl, h.lt, fun j u hu => by rw [h.cell]; simpa using hu⟩⟩
theorem rdS_src {W : World} {v : Value} {l : List (List UInt8)} (h : RdS W v l) : Src Tryd.prog 1 39 v l.length (L6.sv l) W := Rd.src lsrt h (by intro u hu; simp [L6.sv] at hu; obtain ⟨a, _, rfl⟩ := hu; rfl)
set_option maxRecDepth 100000 in
set_option maxHeartbeats 2000000 in
theorem xput_any {F : Nat → Prop} {w : World} {gm : Nat} {tag : List UInt8} {S : Xc.S} (h : Xc.Mk F w gm tag S) (hne : S.words ≠ []) (hok : Xc.Ok 20 S) (v : Value) (ls : List (List UInt8)) (hv : RdS w v ls) (hl : ls.length ≤ 1000000) :
    Calls Tryd.prog 44 #[.pointer (some ⟨gm, 0, none⟩), v] w fun e w' => e = .returned (.tuple #[]) ∧ Xc.To F w gm tag (Xc.put ls S) w' := by
  obtain ⟨init, x, hS⟩ := Xc.words_last hne
  obtain ⟨gw, cap, vo, vl, h1, hnc, hcm, hgw, c0, c1, c2, f1, f2, hvl, hflag, hput⟩ := h.last hS
  have hwt := hok.weight
  have hxl : x.lines.length + init.length ≤ 2000000000 := by
    rw [hS, Xc.weight_app, Xc.weight_one] at hwt
    have := Xc.weight_len init
    have := Xc.lsum_len x.lines
    unfold Xc.wt at hwt
    omega
  have k2 := h1.cell 2
  have HOW := Lib.hid (fun (a : Nat) => own_kept hvl (below_drewN (Below.refl w.heap.size w) a))
  have HSR := Lib.hid (fun (a : Nat) => rdS_src (Rd.kept hv (below_drewN (Below.refl w.heap.size w) a)))
  have HPUT := Lib.hid (fun (a : Nat) (v' : Value) (w1 : World) ho (hg : (w.drewN a).grownBy w1 vl.ownBlock) hw => hput v' w1 ls ho ⟨hg.os, hg.tape, hg.output, hg.size, hg.block⟩ hw)
  obtain ⟨A, c, rfl⟩ := (Rd.of_own hvl).form
  obtain ⟨A1, d1, rfl⟩ := Rd.form hv
  have HL1 := Lib.hid (show (x.lines.length + ls.length) * 16 ≤ 140737488355328 by omega)
  have HL2 := Lib.hid (show x.lines.length + ls.length ≤ maxLen by unfold maxLen; omega)
  simp only [Xc.cells, List.getElem?_toArray, List.getElem?_cons_succ, List.getElem?_cons_zero] at k2
  have HB := Lib.hid hxl
  clear h hok hflag hput hv hvl hwt hS hxl h1 c0 c1 f1 hl
  generalize init.length = n at *
  have hwA : IntKind.i64.wrap ((n : Int) + 1 - 1) = (n : Int) := by have := HB.out; rw [IntKind.wrap_i64]; omega
  have hwB : IntKind.i64.wrap (n : Int) = (n : Int) := by have := HB.out; rw [IntKind.wrap_i64]; omega
  have hr0 : (0 : Int) ≤ (n : Int) := by omega
  have hr1 : (n : Int) < ((n + 1 : Nat) : Int) := by omega
  go_enter Tryd.func44, Tryd.ntmps44
  go_wp2_with fail
  go_quiet (fail)
  go_wp2_with (at_builtin; refine wpList_appendRB rfl _ _ _ _ rfl lsrt (by decide) 0 _ rfl x.lines.length (L6.sv x.lines) (HOW.out _) _ rfl ls.length (L6.sv ls) (HSR.out _) HL1.out HL2.out (Nat.zero_le _) ?_; intro v' w2 ho2 hb2 hg2 hv2; obtain ⟨A2, c2', rfl⟩ := (Rd.of_own ho2).form; obtain ⟨k5, k6, k7⟩ := HPUT.out _ _ _ ho2 hg2 hv2; clear ho2 hb2 hg2 hv2)
  go_end0
  exact ⟨rfl, k7.out⟩
-- the rest is printed by ops_gen.py
set_option maxRecDepth 100000 in
set_option maxHeartbeats 1000000 in
theorem xpush_any {F : Nat → Prop} {w : World} {gm : Nat} {tag : List UInt8} {S : Xc.S} (h : Xc.Mk F w gm tag S) (hne : S.words ≠ []) (hok : Xc.Ok 20 S) (how : List UInt8) (hh : how.length ≤ 500000) :
    Calls Tryd.prog 111 #[.pointer (some ⟨gm, 0, none⟩), .string ⟨how.toArray⟩] w fun e w' => e = .returned (.tuple #[]) ∧ Xc.To F w gm tag (Xc.push how S) w' := by
  have HPOST := Lib.hid (show Xc.put [how, Xc.lAddi, Xc.lSw] S = Xc.push how S from rfl)
  have hbe : Below w.heap.size w (w.alloc (.cells #[.string ⟨how.toArray⟩, .string ⟨#[97, 100, 100, 105, 32, 115, 48, 32, 115, 48, 32, 45, 52]⟩, .string ⟨#[115, 119, 32, 116, 48, 32, 48, 32, 115, 48]⟩] 9)) := (Below.refl _ _).alloc (Nat.le_refl _) _
  have CP := Lib.hid (show Calls Tryd.prog 44 #[.pointer (some ⟨gm, 0, none⟩), .slice (some ⟨w.heap.size, 0, none⟩) 3 3] (w.alloc (.cells #[.string ⟨how.toArray⟩, .string ⟨#[97, 100, 100, 105, 32, 115, 48, 32, 115, 48, 32, 45, 52]⟩, .string ⟨#[115, 119, 32, 116, 48, 32, 48, 32, 115, 48]⟩] 9)) fun e w' => e = .returned (.tuple #[]) ∧ Xc.To F (w.alloc (.cells #[.string ⟨how.toArray⟩, .string ⟨#[97, 100, 100, 105, 32, 115, 48, 32, 115, 48, 32, 45, 52]⟩, .string ⟨#[115, 119, 32, 116, 48, 32, 48, 32, 115, 48]⟩] 9)) gm tag (Xc.put [how, Xc.lAddi, Xc.lSw] S) w' from
    xput_any (h.kept hbe) hne hok (.slice (some ⟨w.heap.size, 0, none⟩) 3 3) [how, Xc.lAddi, Xc.lSw] (rd_new [how, Xc.lAddi, Xc.lSw] (Bk.fresh w _ _) (by simp)) (by simp))
  have HBE := Lib.hid hbe
  clear hbe h hne hok
  go_enter Tryd.func111, Tryd.ntmps111
  go_wp2_with (go_at_call 44; refine CP.out.mono ?_; rintro e w2 ⟨rfl, hto⟩)
  go_end0
  exact ⟨rfl, by rw [← HPOST.out]; exact hto.after (Step.of_below HBE.out)⟩
set_option maxRecDepth 100000 in
set_option maxHeartbeats 1000000 in
theorem xunless_any {F : Nat → Prop} {w : World} {gm : Nat} {tag : List UInt8} {S : Xc.S} (h : Xc.Mk F w gm tag S) (hne : S.words ≠ []) (hok : Xc.Ok 20 S) (k : List UInt8) (hh : k.length ≤ 500000) :
    Calls Tryd.prog 134 #[.pointer (some ⟨gm, 0, none⟩), .string ⟨k.toArray⟩] w fun e w' => e = .returned (.tuple #[]) ∧ Xc.To F w gm tag (Xc.unless k S) w' := by
  obtain ⟨z, hz⟩ : ∃ z, [106, 32] ++ k = z := ⟨_, rfl⟩
  have ez : (⟨#[106, 32]⟩ : ByteArray) ++ ⟨k.toArray⟩ = ⟨z.toArray⟩ := by rw [← hz]; exact app_eq [106, 32] k
  have hsum : ¬ 9223372036854775807 < 2 + k.length := by omega
  have HPOST := Lib.hid (show Xc.put [Xc.lLw, Xc.lPop, Xc.lBnez, z] S = Xc.unless k S from by rw [← hz]; rfl)
  clear hz
  have hbe : Below w.heap.size w (w.alloc (.cells #[.string ⟨#[108, 119, 32, 116, 48, 32, 48, 32, 115, 48]⟩, .string ⟨#[97, 100, 100, 105, 32, 115, 48, 32, 115, 48, 32, 52]⟩, .string ⟨#[98, 110, 101, 122, 32, 116, 48, 32, 56]⟩, .string ⟨z.toArray⟩] 9)) := (Below.refl _ _).alloc (Nat.le_refl _) _
  have CP := Lib.hid (show Calls Tryd.prog 44 #[.pointer (some ⟨gm, 0, none⟩), .slice (some ⟨w.heap.size, 0, none⟩) 4 4] (w.alloc (.cells #[.string ⟨#[108, 119, 32, 116, 48, 32, 48, 32, 115, 48]⟩, .string ⟨#[97, 100, 100, 105, 32, 115, 48, 32, 115, 48, 32, 52]⟩, .string ⟨#[98, 110, 101, 122, 32, 116, 48, 32, 56]⟩, .string ⟨z.toArray⟩] 9)) fun e w' => e = .returned (.tuple #[]) ∧ Xc.To F (w.alloc (.cells #[.string ⟨#[108, 119, 32, 116, 48, 32, 48, 32, 115, 48]⟩, .string ⟨#[97, 100, 100, 105, 32, 115, 48, 32, 115, 48, 32, 52]⟩, .string ⟨#[98, 110, 101, 122, 32, 116, 48, 32, 56]⟩, .string ⟨z.toArray⟩] 9)) gm tag (Xc.put [Xc.lLw, Xc.lPop, Xc.lBnez, z] S) w' from
    xput_any (h.kept hbe) hne hok (.slice (some ⟨w.heap.size, 0, none⟩) 4 4) [Xc.lLw, Xc.lPop, Xc.lBnez, z] (rd_new [Xc.lLw, Xc.lPop, Xc.lBnez, z] (Bk.fresh w _ _) (by simp)) (by simp))
  have HBE := Lib.hid hbe
  clear hbe h hne hok
  go_enter Tryd.func134, Tryd.ntmps134
  go_wp2_with (go_at_call 44; refine CP.out.mono ?_; rintro e w2 ⟨rfl, hto⟩)
  go_end0
  exact ⟨rfl, by rw [← HPOST.out]; exact hto.after (Step.of_below HBE.out)⟩
set_option maxRecDepth 100000 in
set_option maxHeartbeats 1000000 in
theorem xleave_any {F : Nat → Prop} {w : World} {gm : Nat} {tag : List UInt8} {S : Xc.S} (h : Xc.Mk F w gm tag S) (hne : S.words ≠ []) (hok : Xc.Ok 20 S) :
    Calls Tryd.prog 107 #[.pointer (some ⟨gm, 0, none⟩)] w fun e w' => e = .returned (.tuple #[]) ∧ Xc.To F w gm tag (Xc.leave S) w' := by
  have HPOST := Lib.hid (show Xc.put [Xc.lRa, Xc.lSp, Xc.lRet] S = Xc.leave S from rfl)
  have hbe : Below w.heap.size w (w.alloc (.cells #[.string ⟨#[108, 119, 32, 114, 97, 32, 48, 32, 115, 112]⟩, .string ⟨#[97, 100, 100, 105, 32, 115, 112, 32, 115, 112, 32, 52]⟩, .string ⟨#[114, 101, 116]⟩] 9)) := (Below.refl _ _).alloc (Nat.le_refl _) _
  have CP := Lib.hid (show Calls Tryd.prog 44 #[.pointer (some ⟨gm, 0, none⟩), .slice (some ⟨w.heap.size, 0, none⟩) 3 3] (w.alloc (.cells #[.string ⟨#[108, 119, 32, 114, 97, 32, 48, 32, 115, 112]⟩, .string ⟨#[97, 100, 100, 105, 32, 115, 112, 32, 115, 112, 32, 52]⟩, .string ⟨#[114, 101, 116]⟩] 9)) fun e w' => e = .returned (.tuple #[]) ∧ Xc.To F (w.alloc (.cells #[.string ⟨#[108, 119, 32, 114, 97, 32, 48, 32, 115, 112]⟩, .string ⟨#[97, 100, 100, 105, 32, 115, 112, 32, 115, 112, 32, 52]⟩, .string ⟨#[114, 101, 116]⟩] 9)) gm tag (Xc.put [Xc.lRa, Xc.lSp, Xc.lRet] S) w' from
    xput_any (h.kept hbe) hne hok (.slice (some ⟨w.heap.size, 0, none⟩) 3 3) [Xc.lRa, Xc.lSp, Xc.lRet] (rd_new [Xc.lRa, Xc.lSp, Xc.lRet] (Bk.fresh w _ _) (by simp)) (by simp))
  have HBE := Lib.hid hbe
  clear hbe h hne hok
  go_enter Tryd.func107, Tryd.ntmps107
  go_wp2_with (go_at_call 44; refine CP.out.mono ?_; rintro e w2 ⟨rfl, hto⟩)
  go_end0
  exact ⟨rfl, by rw [← HPOST.out]; exact hto.after (Step.of_below HBE.out)⟩
set_option maxRecDepth 100000 in
set_option maxHeartbeats 1000000 in
theorem xhere_any {F : Nat → Prop} {w : World} {gm : Nat} {tag : List UInt8} {S : Xc.S} (h : Xc.Mk F w gm tag S) (hne : S.words ≠ []) (hok : Xc.Ok 20 S) (k : List UInt8) (hh : k.length ≤ 500000) :
    Calls Tryd.prog 132 #[.pointer (some ⟨gm, 0, none⟩), .string ⟨k.toArray⟩] w fun e w' => e = .returned (.tuple #[]) ∧ Xc.To F w gm tag (Xc.here k S) w' := by
  obtain ⟨z, hz⟩ : ∃ z, k ++ [58] = z := ⟨_, rfl⟩
  have ez : (⟨k.toArray⟩ : ByteArray) ++ ⟨#[58]⟩ = ⟨z.toArray⟩ := by rw [← hz]; exact app_eq k [58]
  have hsum : ¬ 9223372036854775807 < k.length + 1 := by omega
  have HPOST := Lib.hid (show Xc.put [z] S = Xc.here k S from by rw [← hz]; rfl)
  clear hz
  have hbe : Below w.heap.size w (w.alloc (.cells #[.string ⟨z.toArray⟩] 9)) := (Below.refl _ _).alloc (Nat.le_refl _) _
  have CP := Lib.hid (show Calls Tryd.prog 44 #[.pointer (some ⟨gm, 0, none⟩), .slice (some ⟨w.heap.size, 0, none⟩) 1 1] (w.alloc (.cells #[.string ⟨z.toArray⟩] 9)) fun e w' => e = .returned (.tuple #[]) ∧ Xc.To F (w.alloc (.cells #[.string ⟨z.toArray⟩] 9)) gm tag (Xc.put [z] S) w' from
    xput_any (h.kept hbe) hne hok (.slice (some ⟨w.heap.size, 0, none⟩) 1 1) [z] (rd_new [z] (Bk.fresh w _ _) (by simp)) (by simp))
  have HBE := Lib.hid hbe
  clear hbe h hne hok
  go_enter Tryd.func132, Tryd.ntmps132
  go_wp2_with (go_at_call 44; refine CP.out.mono ?_; rintro e w2 ⟨rfl, hto⟩)
  go_end0
  exact ⟨rfl, by rw [← HPOST.out]; exact hto.after (Step.of_below HBE.out)⟩
theorem Xc.cells_at (S : Xc.S) (tag : List UInt8) (vw vo : Value) : (Xc.cells S tag vw vo)[0]? = some (.string ⟨S.s.toArray⟩) ∧ (Xc.cells S tag vw vo)[1]? = some (.string ⟨tag.toArray⟩) ∧ (Xc.cells S tag vw vo)[2]? = some vw ∧ (Xc.cells S tag vw vo)[3]? = some (.bool S.within) ∧
    (Xc.cells S tag vw vo)[4]? = some (.string ⟨S.name.toArray⟩) ∧ (Xc.cells S tag vw vo)[5]? = some vo ∧ (Xc.cells S tag vw vo)[6]? = some (.int .i64 (S.made : Int)) ∧ (Xc.cells S tag vw vo)[7]? = some (.string ⟨S.number.toArray⟩) := ⟨rfl, rfl, rfl, rfl, rfl, rfl, rfl, rfl⟩
/-- The compiler's plain cells. -/
structure Xc.Seen (W : World) (gm : Nat) (tag : List UInt8) (S : Xc.S) : Prop where
  c0 : W.cell? ⟨gm, 0, none⟩ = some (.string ⟨S.s.toArray⟩)
  c1 : W.cell? ⟨gm, 1, none⟩ = some (.string ⟨tag.toArray⟩)
  c3 : W.cell? ⟨gm, 3, none⟩ = some (.bool S.within)
  c4 : W.cell? ⟨gm, 4, none⟩ = some (.string ⟨S.name.toArray⟩)
  c6 : W.cell? ⟨gm, 6, none⟩ = some (.int .i64 (S.made : Int))
  c7 : W.cell? ⟨gm, 7, none⟩ = some (.string ⟨S.number.toArray⟩)
  f : ∀ i, W.frozen? ⟨gm, i, none⟩ = false
  lt : gm < W.heap.size
theorem Xc.Mk.seen {F : Nat → Prop} {W : World} {gm : Nat} {tag : List UInt8} {S : Xc.S} (h : Xc.Mk F W gm tag S) : Xc.Seen W gm tag S := by
  obtain ⟨vw, vo, cs, h1, _⟩ := h.obj
  obtain ⟨e0, e1, _, e3, e4, _, e6, e7⟩ := Xc.cells_at S tag vw vo
  exact ⟨(h1.cell 0).trans e0, (h1.cell 1).trans e1, (h1.cell 3).trans e3, (h1.cell 4).trans e4, (h1.cell 6).trans e6, (h1.cell 7).trans e7, fun i => h1.free i, h1.lt⟩
/-- The table of tens is none of these blocks. -/
def Xc.Tb (F : Nat → Prop) (w : World) : Prop := L6.Tab w ∧ ¬ F 1
theorem Xc.tab_fr {F : Nat → Prop} {w w' : World} (h : L6.Tab w) (hf : Fr F w w') (hn : ¬ F 1) : L6.Tab w' := by
  have hlt := F8.tab_lt h
  unfold L6.Tab Lib.TabIs at *
  unfold World.var? at *
  rw [L6.tab_named] at *
  simp only [Option.bind_some] at *
  rw [hf.block _ hlt hn]
  exact h
theorem Xc.Tb.step {F F' : Nat → Prop} {w w' : World} (h : Xc.Tb F w) (hs : Step F w F' w') : Xc.Tb F' w' :=
  ⟨Xc.tab_fr h.1 hs.fr h.2, fun e => (hs.new _ e).elim h.2 (fun e => absurd (F8.tab_lt h.1) (by omega))⟩
theorem Xc.Tb.kept {F : Nat → Prop} {w w' : World} (h : Xc.Tb F w) (hb : Below w.heap.size w w') : Xc.Tb F w' := h.step (Step.of_below hb)
theorem Xc.lab_app (tag : List UInt8) (n : Nat) : (⟨tag.toArray⟩ : ByteArray) ++ ⟨(Lib.decDigits n).toArray⟩ = ⟨(Xc.lab tag n).toArray⟩ := app_eq tag (Lib.decDigits n)
set_option maxRecDepth 100000 in
set_option maxHeartbeats 1000000 in
theorem xlabel_any {F : Nat → Prop} {w : World} {gm : Nat} {tag : List UInt8} {S : Xc.S} (h : Xc.Mk F w gm tag S) (hok : Xc.Ok 20 S) (ht : tag.length ≤ 31) (hT0 : Xc.Tb F w) :
    Calls Tryd.prog 131 #[.pointer (some ⟨gm, 0, none⟩)] w fun e w' => e = .returned (.string ⟨(Xc.lab tag S.made).toArray⟩) ∧ Xc.To F w gm tag (Xc.more S) w' := by
  have hT : L6.Tab (w.setCell ⟨gm, 6, none⟩ (.int .i64 ((S.made : Int) + 1))) := Xc.tab_fr hT0.1 (Fr.setCell w gm 6 _ h.gm) hT0.2
  have hto := h.set 6 (.int .i64 ((S.made : Int) + 1)) (S' := Xc.more S) rfl rfl (fun vw vo => by simp [Xc.cells, Xc.more])
  have hsn := h.seen
  have hm := hok.made
  obtain ⟨F1, hm1, hs1⟩ := hto
  have hsn1 := hm1.seen
  obtain ⟨s, ws, wi, nm, op, sm, nb⟩ := S
  dsimp only [Xc.more] at *
  have c6 := hsn.c6
  have f6 := hsn.f 6
  have d1 := hsn1.c1
  have d6 := hsn1.c6
  dsimp only at c6 d1 d6
  have hw1 : IntKind.i64.wrap ((sm : Int) + 1) = (sm : Int) + 1 := by rw [IntKind.wrap_i64]; omega
  have hw2 : IntKind.i64.wrap (sm : Int) = (sm : Int) := by rw [IntKind.wrap_i64]; omega
  have hw3 : IntKind.i64.wrap ((sm : Int) + 1 - 1) = (sm : Int) := by rw [IntKind.wrap_i64]; omega
  have hlen : ¬ 9223372036854775807 < tag.length + (Lib.decDigits sm).length := by have := F8.dec_len sm; omega
  have hz : ∀ {W : World}, Below w.heap.size (w.setCell ⟨gm, 6, none⟩ (.int .i64 ((sm : Int) + 1))) W → Below (w.setCell ⟨gm, 6, none⟩ (.int .i64 ((sm : Int) + 1))).heap.size (w.setCell ⟨gm, 6, none⟩ (.int .i64 ((sm : Int) + 1))) W := fun h => by rw [show (w.setCell ⟨gm, 6, none⟩ (.int .i64 ((sm : Int) + 1))).heap.size = w.heap.size by simp [World.setCell]]; exact h
  have HW := Lib.hid (fun W (hb : Below w.heap.size (w.setCell ⟨gm, 6, none⟩ (.int .i64 ((sm : Int) + 1))) W) => show W.cell? ⟨gm, 1, none⟩ = some (.string ⟨tag.toArray⟩) ∧ W.cell? ⟨gm, 6, none⟩ = some (.int .i64 ((sm + 1 : Nat) : Int)) from ⟨(hm1.kept (hz hb)).seen.c1, (hm1.kept (hz hb)).seen.c6⟩)
  have HTO := Lib.hid (fun W (hb : Below w.heap.size (w.setCell ⟨gm, 6, none⟩ (.int .i64 ((sm : Int) + 1))) W) => show Xc.To F w gm tag ⟨s, ws, wi, nm, op, sm + 1, nb⟩ W from ⟨F1, hm1.kept (hz hb), hs1.trans (Step.of_below (hz hb))⟩)
  have CI := Lib.hid (fun W (hb : Below w.heap.size (w.setCell ⟨gm, 6, none⟩ (.int .i64 ((sm : Int) + 1))) W) => litoa_any sm W (by omega) (.inr (hT.kept (hz hb))))
  clear h hok hT hT0 hm hm1 hs1 hsn hsn1 ht hz
  go_enter Tryd.func131, Tryd.ntmps131
  go_wp2_with fail
  refine Kit.wp_region_class (fun W' => Below w.heap.size (w.setCell ⟨gm, 6, none⟩ (.int .i64 ((sm : Int) + 1))) W') (by kernel_rfl) (by kernel_rfl) ((Below.refl _ _).drew) ?_
  repeat (first | go_big_quiet_skip | (refine BigFrame.wpQuiet_want (by rfl) (fun K hK => ?_); first | ((fail_if_success (fail_if_success (first | (refine BigFrame.quiet_move _ rfl ?_) | (refine BigFrame.quiet_assign _ rfl ?_)))); go_big_quiet_op; refine hK _ ?_; clear hK K) | (apply Exists.intro; refine ⟨fun W' hW' => ?_, hK _ ?_⟩; (obtain ⟨k1, k6⟩ := HW.out W' hW'; unfold Oper.quietAt; go_simp; (first | done | (with_reducible rfl) | (exact ⟨rfl, rfl⟩) | (first | (go_at_call 83; exact (Kit.callB (CI.out W' hW') hW' (by simp [World.setCell]))) | (refine ⟨rfl, ?_⟩; (first | (go_at_call 83; exact (Kit.callB (CI.out W' hW') hW' (by simp [World.setCell])))))))); clear hK K; (try simp only [Act.put, List.getElem_toArray, List.getElem_cons_zero, List.getElem_cons_succ, List.setIfInBounds_toArray, List.set_cons_zero, List.set_cons_succ]))))
  refine wpQuiet_nil ?_
  intro W9 hW9
  go_wp2_with fail
  go_ret
  exact ⟨congrArg (fun x => Ending.returned (.string x)) (Xc.lab_app tag sm), HTO.out _ hW9⟩
set_option maxRecDepth 100000 in
set_option maxHeartbeats 1000000 in
theorem xwait_any {F : Nat → Prop} {w : World} {gm : Nat} {tag : List UInt8} {S : Xc.S} (h : Xc.Mk F w gm tag S) (hok : Xc.Ok 20 S) (x k : List UInt8) :
    Calls Tryd.prog 133 #[.pointer (some ⟨gm, 0, none⟩), .string ⟨x.toArray⟩, .string ⟨k.toArray⟩] w fun e w' => e = .returned (.tuple #[]) ∧ Xc.To F w gm tag (Xc.wait x k S) w' := by
  obtain ⟨vw, vo, h1, h5, hw⟩ := h.wait x k
  have c5 := h1.cell 5
  obtain ⟨A, c, rfl⟩ := (Rd.of_own h5).form
  simp only [Xc.cells, List.getElem?_toArray, List.getElem?_cons_succ, List.getElem?_cons_zero] at c5
  have hal : Below w.heap.size w (w.alloc (.cells #[.string ⟨x.toArray⟩, .string ⟨k.toArray⟩] 180)) := (Below.refl _ _).alloc (Nat.le_refl _) _
  have ho := hok.opens
  have HOW := Lib.hid (own_kept h5 hal)
  have HSR := Lib.hid (show Src Tryd.prog 2 80 (.slice (some ⟨w.heap.size, 0, none⟩) 1 1) 1 [.string ⟨x.toArray⟩, .string ⟨k.toArray⟩] (w.alloc (.cells #[.string ⟨x.toArray⟩, .string ⟨k.toArray⟩] 180)) from
    Rd.src xort (Rd.built (Bk.fresh w _ #[.string ⟨x.toArray⟩, .string ⟨k.toArray⟩]) rfl) (by intro u hu; simp at hu; rcases hu with rfl | rfl <;> rfl))
  have HL1 := Lib.hid (show (S.opens.length + 1) * 32 ≤ 140737488355328 by omega)
  have HL2 := Lib.hid (show S.opens.length + 1 ≤ maxLen by unfold maxLen; omega)
  have HP := Lib.hid (fun v' w1 ho hg hv => hw _ v' w1 hal ho hg hv)
  clear h hok h1 h5 hw hal ho
  generalize S.opens.length = n at *
  generalize F8.opc S.opens = xs at *
  go_enter Tryd.func133, Tryd.ntmps133
  go_wp2_with (at_builtin; refine wpList_appendRB rfl _ _ _ _ rfl xort (by decide) 0 _ rfl n xs HOW.out _ rfl 1 [.string ⟨x.toArray⟩, .string ⟨k.toArray⟩] HSR.out HL1.out HL2.out (Nat.zero_le _) ?_; intro v' w2 ho2 hb2 hg2 hv2; obtain ⟨A2, c2, rfl⟩ := (Rd.of_own ho2).form; obtain ⟨d1, f1, hm⟩ := HP.out _ _ ho2 hg2 hv2; clear ho2 hb2 hg2 hv2)
  go_end0
  exact ⟨rfl, hm.out⟩
/-- What a close yields. -/
def Xc.ClosePost (F : Nat → Prop) (w : World) (gm : Nat) (tag : List UInt8) (S : Xc.S) (r : Option (List UInt8 × Xc.S)) (e : Ending) (w' : World) : Prop :=
  match r with
  | none => e = .returned (.tuple #[.string ⟨#[]⟩, .bool false]) ∧ w = w'
  | some (k, S1) => e = .returned (.tuple #[.string ⟨k.toArray⟩, .bool true]) ∧ Xc.To F w gm tag S1 w'
set_option maxRecDepth 100000 in
set_option maxHeartbeats 1000000 in
theorem xclose_any {F : Nat → Prop} {w : World} {gm : Nat} {tag : List UInt8} {S : Xc.S} (h : Xc.Mk F w gm tag S) (hok : Xc.Ok 20 S) (v : Value) (ws : List (List UInt8)) (hv : RdS w v ws) (hl : ws.length ≤ 1000000) :
    Calls Tryd.prog 135 #[.pointer (some ⟨gm, 0, none⟩), v] w (Xc.ClosePost F w gm tag S (Xc.close ws S)) := by
  have ho := hok.opens
  cases hS : S.opens with
  | nil =>
    have HP := Lib.hid (show Xc.close ws S = none from by unfold Xc.close; rw [hS])
    obtain ⟨vw, vo, cs, h1, _, _, _, h5, _⟩ := h.obj
    rw [hS] at h5
    obtain ⟨A, c, rfl⟩ := (Rd.of_own h5).form
    have c5 := h1.cell 5
    simp only [Xc.cells, List.getElem?_toArray, List.getElem?_cons_succ, List.getElem?_cons_zero, List.length_nil] at c5
    obtain ⟨A1, d1, rfl⟩ := Rd.form hv
    clear h hok hv hl ho hS h1 h5
    go_enter Tryd.func135, Tryd.ntmps135
    go_wp2_with fail
    go_ret2
    rw [HP.out]
    exact ⟨rfl, rfl⟩
  | cons p r =>
    obtain ⟨px, pk⟩ := p
    obtain ⟨vw, gw, cap, h1, hnc, hcm, hgw, e0, e1, hto⟩ := h.pop hS
    have c5 := h1.cell 5
    have f5 := h1.free 5
    simp only [Xc.cells, List.getElem?_toArray, List.getElem?_cons_succ, List.getElem?_cons_zero] at c5
    rw [hS, List.length_cons] at ho
    have HTO := Lib.hid hto
    have CC := Lib.hid (fcontains_any v ws px w hv (by omega))
    have hw1 : IntKind.i64.wrap (r.length : Int) = (r.length : Int) := by rw [IntKind.wrap_i64]; omega
    have hw2 : IntKind.i64.wrap ((r.length : Int) + 1 - 1) = (r.length : Int) := by rw [IntKind.wrap_i64]; omega
    have hlt : ¬ ((r.length : Int) < 0) := by omega
    have hr0 : (0 : Int) ≤ (r.length : Int) := by omega
    have hr1 : (r.length : Int) < ((r.length + 1 : Nat) : Int) := by omega
    have hr2 : (r.length : Int) ≤ (cap : Int) := by omega
    obtain ⟨A1, d1, rfl⟩ := Rd.form hv
    by_cases hx : px ∈ ws
    · have HP := Lib.hid (show Xc.close ws S = some (pk, Xc.shut r S) from by unfold Xc.close; rw [hS]; dsimp only; rw [if_pos hx])
      rw [decide_eq_true hx] at CC
      clear h hok hv hl ho hS h1 hto hx
      go_enter Tryd.func135, Tryd.ntmps135
      go_wp2_with (go_at_call 100; refine CC.out.mono ?_; rintro e w' ⟨rfl, rfl⟩)
      go_ret2
      rw [HP.out]
      exact ⟨rfl, HTO.out⟩
    · have HP := Lib.hid (show Xc.close ws S = none from by unfold Xc.close; rw [hS]; dsimp only; rw [if_neg hx])
      rw [decide_eq_false hx] at CC
      clear h hok hv hl ho hS h1 hto hx
      go_enter Tryd.func135, Tryd.ntmps135
      go_wp2_with (go_at_call 100; refine CC.out.mono ?_; rintro e w' ⟨rfl, rfl⟩)
      go_ret2
      rw [HP.out]
      exact ⟨rfl, rfl⟩
end Go.Proofs.YtfafdkbnmfpbmaaDoor
