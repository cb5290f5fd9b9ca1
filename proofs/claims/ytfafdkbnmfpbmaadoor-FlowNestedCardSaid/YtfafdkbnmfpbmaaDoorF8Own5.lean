/- Flow, the program's side: branch. -/
import Derived.Test.YtfafdkbnmfpbmaaDoorF8Own3
namespace Go.Proofs.YtfafdkbnmfpbmaaDoor
open Go.RowKit Kit
set_option linter.unusedVariables false
set_option linter.unusedSimpArgs false

theorem F8.bk_drew {w : World} {g : Nat} {t : TypeId} {cs : Array Value} (h : Bk w g t cs) : Bk w.drew g t cs := h
theorem F8.three {w : World} {v : Value} {l : List (List UInt8)} (h : RdS w v l) (hl : l.length = 3) :
    ∃ g off c, v = .slice (some ⟨g, off, none⟩) 3 c ∧ g < w.heap.size ∧ w.cell? ⟨g, off, none⟩ = some (.string ⟨(l.getD 0 []).toArray⟩) ∧ w.cell? ⟨g, off + 1, none⟩ = some (.string ⟨(l.getD 1 []).toArray⟩) ∧ w.cell? ⟨g, off + 2, none⟩ = some (.string ⟨(l.getD 2 []).toArray⟩) := by
  match l, hl with
  | [a, b, d], _ =>
    obtain ⟨h1, A, c, rfl, h2, h3, h4⟩ := h
    obtain ⟨g, off, rfl, hg, hc⟩ := h4 (by simp)
    exact ⟨g, off, c, rfl, hg, by simpa using hc 0 (.string ⟨a.toArray⟩) rfl, hc 1 (.string ⟨b.toArray⟩) rfl, hc 2 (.string ⟨d.toArray⟩) rfl⟩
theorem F8.cat_b (o : List UInt8) : (⟨#[98]⟩ : ByteArray) ++ ⟨o.toArray⟩ = ⟨(98 :: o).toArray⟩ := app_eq [98] o
theorem F8.opp_len (c : List UInt8) : ((F8.opp c).getD []).length ≤ 3 := by
  unfold F8.opp
  repeat' split
  all_goals decide
set_option maxRecDepth 100000 in
set_option maxHeartbeats 4000000 in
theorem fbranch_any {B gm H : Nat} {S : F8.St} (w : World) (h : F8.MkO B w gm H S) (vl va : Value) (s : ByteArray) (x : L6.Line) (tt : List UInt8) (hl : OwnZ B w vl x.labels) (hn : ∀ k, F8.blk vl = some k → H ≤ k) (ha : RdS w va x.args) (h3 : x.args.length = 3) (ho : S.out.length ≤ 100000) :
    Calls Tryd.prog 64 #[.pointer (some ⟨gm, 0, none⟩), .agg #[vl, .string s, va], .string ⟨tt.toArray⟩] w fun e w' => e = .returned (.tuple #[]) ∧ F8.MkO B w' gm w'.heap.size ⟨S.out ++ [F8.br x tt], S.opn, S.made⟩ ∧ F8.Stay gm B w w' := by
  obtain ⟨xl, xw, xa⟩ := x
  dsimp only at hl ha h3 ⊢
  have HH := Lib.hid h
  have HL := Lib.hid hl
  have HN := Lib.hid hn
  have HO := Lib.hid ho
  obtain ⟨A1, c1, rfl⟩ := hl.form
  obtain ⟨g, off, ca, rfl, hg, a0, a1, a2⟩ := F8.three ha h3
  have CO := Lib.hid (fun W => fopp_any (xa.getD 1 []) W)
  have HBR := Lib.hid (show F8.br ⟨xl, xw, xa⟩ tt = ⟨xl, 98 :: (F8.opp (xa.getD 1 [])).getD [], [xa.getD 0 [], xa.getD 2 [], tt]⟩ from rfl)
  have hol := F8.opp_len (xa.getD 1 [])
  clear h hl hn ho ha h3
  generalize xa.getD 0 [] = y0 at *
  generalize xa.getD 1 [] = y1 at *
  generalize xa.getD 2 [] = y2 at *
  generalize (F8.opp y1).getD [] = o at *
  generalize (F8.opp y1).isSome = ob at *
  have hlen : ¬ 9223372036854775807 < 1 + o.length := by omega
  have hgl : w.heap.size ≠ g := by omega
  have hgl2 : g ≠ w.heap.size := by omega
  have hgl3 : g ≠ w.heap.size + 1 := by omega
  have HA := Lib.hid (fun W (hW : Below w.heap.size w W) => show W.cell? ⟨g, off, none⟩ = some (.string ⟨y0.toArray⟩) ∧ W.cell? ⟨g, off + 2, none⟩ = some (.string ⟨y2.toArray⟩) from ⟨(hW.cell (p := ⟨g, off, none⟩) hg).trans a0, (hW.cell (p := ⟨g, off + 2, none⟩) hg).trans a2⟩)
  go_enter Tryd.func64, Tryd.ntmps64
  go_wp2_with (go_at_call 14; refine (CO.out _).mono ?_; rintro e w' ⟨rfl, rfl⟩)
  go_region
  go_wp2_with fail
  rw [F8.cat_b]
  obtain ⟨W3, hW3⟩ : ∃ W3, ((w.alloc (.cells #[.slice A1 xl.length c1, .string ⟨(98 :: o).toArray⟩, .slice (some ⟨w.heap.size + 1, 0, none⟩) 3 3] 42)).alloc (.cells #[.string ⟨y0.toArray⟩, .string ⟨y2.toArray⟩, .string ⟨tt.toArray⟩] 9)).drew = W3 := ⟨_, rfl⟩
  rw [hW3]
  have hbe : Below w.heap.size w W3 := by rw [← hW3]; exact (((Below.refl _ _).alloc (Nat.le_refl _) _).alloc (by simp) _).drew
  have hsz : W3.heap.size = w.heap.size + 2 := by rw [← hW3]; simp
  have hbs : Bk W3 (w.heap.size + 1) 9 (L6.sv [y0, y2, tt]).toArray := by rw [← hW3]; have := F8.bk_drew (Bk.fresh (w.alloc (.cells #[.slice A1 xl.length c1, .string ⟨(98 :: o).toArray⟩, .slice (some ⟨w.heap.size + 1, 0, none⟩) 3 3] 42)) 9 #[.string ⟨y0.toArray⟩, .string ⟨y2.toArray⟩, .string ⟨tt.toArray⟩]); rw [World.size_alloc] at this; exact this
  have hbl : Bk W3 w.heap.size 42 #[.slice A1 xl.length c1, .string ⟨(98 :: o).toArray⟩, .slice (some ⟨w.heap.size + 1, 0, none⟩) 3 3] := by rw [← hW3]; exact F8.bk_drew ((Bk.fresh w _ _).kept ((Below.refl _ _).alloc (Nat.le_refl _) _))
  have hza : OwnZ w.heap.size W3 (.slice (some ⟨w.heap.size + 1, 0, none⟩) 3 3) [y0, y2, tt] := .inl (F8.own_of_bk hbs (Nat.le_succ _) (by unfold maxLen; simp))
  have hst := F8.Stay.of hbe HH.out.size HH.out.lt
  have hzl := HL.out.stay hst
  have hnew := F8.new_of HL.out HN.out hza HH.out.le hbe.size
  obtain ⟨A, c, cs, k0, f0, hkk, hoo1, hs1, hz1, hput⟩ := F8.Mk.room F8.uo llrt (HH.out.kept hbe) ⟨xl, 98 :: o, [y0, y2, tt]⟩ (.inl hzl) (.inl (hza.rebase HH.out.size)) (fun _ => hnew)
  have b0 := hbl.cell 0
  have b1 := hbl.cell 1
  have b2 := hbl.cell 2
  have ka : (W3.alloc (.cells #[.slice A1 xl.length c1, .string ⟨(98 :: o).toArray⟩, .slice (some ⟨w.heap.size + 1, 0, none⟩) 3 3] 42)).cell? ⟨gm, 0, none⟩ = some (.slice A S.out.length c) := hkk _ ((Below.refl _ _).alloc (Nat.le_refl _) _)
  clear hkk
  have HO1 := Lib.hid hoo1
  have HS1 := Lib.hid hs1
  have HZ1 := Lib.hid hz1
  have HPUT := Lib.hid hput
  have HST := Lib.hid hst
  have HL1 := Lib.hid (show (S.out.length + 1) * 64 ≤ 140737488355328 by have := HO.out; omega)
  have HL2 := Lib.hid (show S.out.length + 1 ≤ maxLen by have := HO.out; unfold maxLen; omega)
  clear hbe hsz hbs hbl hza hst hzl hnew hoo1 hs1 hz1 hput hW3 a0 a1 a2 hg hgl hgl2 hgl3
  go_region_law (refine step_appendRB (by rfl) _ _ _ _ (by rfl) llrt (by decide) B (.slice A S.out.length c) (by rfl) S.out.length cs HO1.out _ (by rfl) 1 [.slice A1 xl.length c1, .string ⟨(98 :: o).toArray⟩, .slice (some ⟨w.heap.size + 1, 0, none⟩) 3 3] HS1.out HL1.out HL2.out HZ1.out ?_; intro v3 w3 ho3 hb3 hg3 hv3; obtain ⟨⟨A3, c3, rfl⟩, k3, f3, HM⟩ := HPUT.out v3 w3 ho3 hb3 hg3 hv3)
  all_goals go_wp2_with fail
  all_goals go_end0
  all_goals exact ⟨rfl, by rw [HBR.out]; exact HM.out.1.later HM.out.1.le (Nat.le_refl _), HST.out.trans HM.out.2⟩
end Go.Proofs.YtfafdkbnmfpbmaaDoor
