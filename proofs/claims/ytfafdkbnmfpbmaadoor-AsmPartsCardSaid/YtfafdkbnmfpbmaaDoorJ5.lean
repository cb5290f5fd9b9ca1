/- Texts joined: L6Base, L6Num2, L6Num3, IsTab, IsForms, BtMin, IsWalks, IsLegal, IsEnc, IsEncode. -/
import Derived.Test.YtfafdkbnmfpbmaaDoorJ4
import Derived.Test.YtfafdkbnmfpbmaaDoorRows
import Derived.WalkKit
import Derived.WalkLawsBesides
import Derived.WalkSpells
import Derived.Lib.Hide
import Derived.Below
import Derived.Laws.Tables
import Derived.Laws.Rows
import Derived.Deep.WholeRow
import Derived.StillTailTactics
import Derived.Deep.RegionHeld3
import Derived.Outline
import Derived.Deep.DeepCutAuto
/- Shared by the program's side and the document's: bytes that are compared, rows of the document's lines. -/
namespace Go.Proofs.YtfafdkbnmfpbmaaDoor
open Go.RowKit Kit
set_option linter.unusedVariables false
set_option linter.unusedSimpArgs false

theorem byte_eq (c d : UInt8) : ((c.toNat : Int) == (d.toNat : Int)) = (c == d) := by
  rw [Bool.eq_iff_iff, beq_iff_eq, beq_iff_eq]
  exact ⟨fun h => UInt8.toNat_inj.1 (by omega), fun h => by rw [h]⟩
theorem L6.take_snoc {l : List (List UInt8)} {j : Nat} (hj : j < l.length) : l.take (j + 1) = l.take j ++ [l.getD j []] := by
  rw [List.take_add_one, List.getElem?_eq_getElem hj]
  simp [List.getD, hj]
theorem rlrt : RowTy Tryd.prog 22 41 3 64 :=
  ⟨Tryd.underlying22, by
    have h : (Tryd.prog.info? 41).map (fun i => (i.zero, i.size, i.bytes)) = some (some (.agg #[.slice none 0 0, .string ByteArray.empty, .slice none 0 0]), 3, 64) := by kernel_rfl
    obtain ⟨i, h1, h2, h3, h4⟩ := info_parts h
    exact ⟨i, _, h1, h2, h3, h4, by kernel_rfl⟩⟩
def ROwnL (base : Nat) (w : World) (v : Value) (ls : List L6.Line) : Prop := ∃ cs, w.ownsRow base 41 3 v ls.length cs ∧ LinesV base w ls cs
theorem ROwnL.nil (base : Nat) (w : World) : ROwnL base w (.slice none 0 0) [] := ⟨[], World.ownsRow_nil w base 41 3, rfl⟩
theorem ROwnL.kept {base : Nat} {w w' : World} {v : Value} {ls : List L6.Line} (h : ROwnL base w v ls) (hb : Below w.heap.size w w') : ROwnL base w' v ls := by
  obtain ⟨cs, h1, h2⟩ := h
  exact ⟨cs, own_kept h1 hb, h2.map fun _ _ h => h.kept hb⟩
theorem ROwnL.form {base : Nat} {w : World} {v : Value} {ls : List L6.Line} (h : ROwnL base w v ls) : ∃ A c, v = .slice A ls.length c := by
  obtain ⟨cs, h1, _⟩ := h
  exact (Rd.of_own h1).form
/-- What a row of lines grows by leaves slices of texts alone. -/
theorem OwnS.grown {base base' : Nat} {w1 w' : World} {v u : Value} {n : Nat} {cs : List Value} {l : List (List UInt8)} (hv : w1.ownsRow base' 41 3 v n cs) (hg : w1.grownBy w' v.ownBlock) (hu : OwnS base w1 u l) : OwnS base w' u l := by
  obtain ⟨e1, e2⟩ := hu
  refine ⟨e1, ?_⟩
  rcases e2 with e2 | ⟨g', cap, cur, rfl, hb', hh, rest⟩
  · exact .inl e2
  · refine .inr ⟨g', cap, cur, rfl, hb', (hg.block g' (Array.getElem?_eq_some_iff.1 hh).1 (fun e => ?_)).trans hh, rest⟩
    obtain ⟨_, q⟩ := hv
    rcases q with ⟨rfl, _⟩ | ⟨g2, cap2, cur2, rfl, _, hh2, _⟩
    · simp [Value.ownBlock] at e
    · simp [Value.ownBlock] at e
      subst e
      rw [hh] at hh2
      simp at hh2
theorem ROwnL.grown {base : Nat} {w w1 w' : World} {v v' vl va : Value} {ls : List L6.Line} {x : L6.Line} {cs : List Value} (h2 : LinesV base w ls cs) (hv : w1.ownsRow base 41 3 v ls.length cs) (hb : Below w.heap.size w w1)
    (hl : OwnS base w1 vl x.labels) (ha : OwnS base w1 va x.args) (ho : w'.ownsRow base 41 3 v' (ls.length + 1) (cs ++ [vl, .string ⟨x.word.toArray⟩, va])) (hg : w1.grownBy w' v.ownBlock) : ROwnL base w' v' (ls ++ [x]) :=
  ⟨_, by simpa using ho, LinesV.snoc (OwnS.grown hv hg hl) (OwnS.grown hv hg ha) (h2.map fun u l hu => OwnS.grown hv hg (hu.kept hb))⟩
theorem rone3 {a b : Nat} {w : World} {vl va : Value} {x y : List (List UInt8)} {u : ByteArray} (h1 : OwnS a w vl x) (h2 : OwnS b w va y) : ∀ z ∈ [vl, .string u, va], z.oneCell' = true := by
  obtain ⟨A1, c1, rfl⟩ := h1.form
  obtain ⟨A2, c2, rfl⟩ := h2.form
  intro z hz
  simp only [List.mem_cons, List.not_mem_nil, or_false] at hz
  rcases hz with rfl | rfl | rfl <;> rfl
theorem RdS.at {w : World} {v : Value} {l : List (List UInt8)} (h : RdS w v l) {k : Nat} (hk : k < l.length) : ∃ g off c, v = .slice (some ⟨g, off, none⟩) l.length c ∧ g < w.heap.size ∧ w.cell? ⟨g, off + k, none⟩ = some (.string ⟨(l.getD k []).toArray⟩) := by
  obtain ⟨hl, A, c, rfl, h2, h3, h4⟩ := h
  obtain ⟨g, off, rfl, hg, hc⟩ := h4 (by omega)
  refine ⟨g, off, c, rfl, hg, ?_⟩
  refine hc k _ ?_
  simp [L6.sv, List.getD, List.getElem?_eq_getElem hk]
/-- A slice of texts from k on. -/
theorem RdS.drop {w : World} {v : Value} {l : List (List UInt8)} (h : RdS w v l) {k : Nat} (hk : k ≤ l.length) :
    ∃ v2, (∀ (K : IntKind) W, (Instr.slice 39 v (some (.int K (k : Int))) none none).run Tryd.prog W = .ok v2 W) ∧ RdS w v2 (l.drop k) ∧ ∀ A c, v = .slice A l.length c → v2 = sliced A k l.length c 1 := by
  obtain ⟨hl, A, c, rfl, h2, h3, h4⟩ := h
  refine ⟨sliced A k l.length c 1, ?_, ?_, fun A' c' e => by injection e with e1 e2 e3; rw [e1, e3]⟩
  · intro K W
    have h3' := h3
    unfold maxLen at h3'
    have helem : Tryd.prog.elem 39 = 9 := by simp [Program.elem, Tryd.underlying39]
    have ht : Tryd.prog.underlying 39 = some (.slice (Tryd.prog.elem 39)) := by rw [helem]; exact Tryd.underlying39
    obtain ⟨i, z, hi, hz, hs, hb, hzs⟩ := lsrt.info
    have hsz : (sizeOf (Tryd.prog.elem 39)).run Tryd.prog W = .ok 1 W := by rw [helem]; simp [sizeOf, typeInfo, hi, hs]
    rw [run_slice_l (w := W) 39 _ _ _ ht K k (by omega) (by simp <;> omega), hsz]
    simp
  · refine ⟨by simp [L6.sv], ?_⟩
    unfold sliced
    by_cases hkl : k = l.length
    · subst hkl
      have hd : l.drop l.length = [] := List.drop_of_length_le (Nat.le_refl _)
      rw [hd]
      by_cases hcl : c = l.length
      · exact ⟨A, c - l.length, by rw [if_pos hcl]; simp, by simp, by omega, fun hn => by simp at hn⟩
      · exact ⟨A.map (·.add (l.length * 1)), c - l.length, by rw [if_neg hcl]; simp, by simp, by omega, fun hn => by simp at hn⟩
    · obtain ⟨g, off, rfl, hg, hc⟩ := h4 (by omega)
      have hcl : c ≠ k := by omega
      refine ⟨some ⟨g, off + k, none⟩, c - k, by rw [if_neg hcl]; simp [addr_add], by simp; omega, by omega, fun _ => ⟨g, off + k, rfl, hg, fun j u hu => ?_⟩⟩
      have := hc (k + j) u (by simpa [L6.sv, List.getElem?_drop] using hu)
      rw [show off + k + j = off + (k + j) by omega]
      exact this
end Go.Proofs.YtfafdkbnmfpbmaaDoor

/- The walks of Number, counted, rows, Register. -/
namespace Go.Proofs.YtfafdkbnmfpbmaaDoor
open Go.RowKit Kit
set_option linter.unusedVariables false
set_option linter.unusedSimpArgs false

def L6.quoted3 (l : List UInt8) : Bool := decide (l.length = 3) && (l.getD 0 0 == 39 && l.getD 2 0 == 39)
/-- A number, before its bounds are asked. -/
def L6.rawV (l : List UInt8) : Int × Bool :=
  if Lib.hasPrefix l [48, 120] && !(Lib.trimPrefix l [48, 120]).isEmpty then (((L6.digitsV 16 (Lib.trimPrefix l [48, 120])).1 : Nat), (L6.digitsV 16 (Lib.trimPrefix l [48, 120])).2)
  else if Lib.hasPrefix l [45] then (-((L6.digitsV 10 (Lib.trimPrefix l [45])).1 : Nat), (L6.digitsV 10 (Lib.trimPrefix l [45])).2)
  else (((L6.digitsV 10 l).1 : Nat), (L6.digitsV 10 l).2)
def L6.number (l : List UInt8) : Int × Bool :=
  if L6.quoted3 l then ((((l.getD 1 0).toNat : Nat) : Int), true)
  else if (L6.rawV l).2 && (decide (-2147483648 ≤ (L6.rawV l).1) && decide ((L6.rawV l).1 ≤ 4294967295)) then ((L6.rawV l).1, true) else (0, false)
theorem L6.trimP_len (l p : List UInt8) : (Lib.trimPrefix l p).length ≤ l.length := by
  unfold Lib.trimPrefix
  split
  · simp
  · exact Nat.le_refl _
theorem wrap64_byte (c : UInt8) : wrap64 (c.toNat : Int) = (c.toNat : Int) := by
  have := c.toNat_lt
  unfold wrap64
  omega
/-- The number ahead of its bounds: what stands in the slots. -/
theorem L6.number_raw {l : List UInt8} (hq : L6.quoted3 l = false) : L6.number l = if (L6.rawV l).2 && (decide (-2147483648 ≤ (L6.rawV l).1) && decide ((L6.rawV l).1 ≤ 4294967295)) then ((L6.rawV l).1, true) else (0, false) := by
  unfold L6.number; rw [hq]; rfl
set_option maxRecDepth 20000 in
set_option maxHeartbeats 1000000 in
theorem lnumber_any (l : List UInt8) (w : World) (hl : l.length ≤ maxLen) : Calls Tryd.prog 110 #[.string ⟨l.toArray⟩] w fun e w' => e = .returned (.tuple #[.int .i64 (L6.number l).1, .bool (L6.number l).2]) ∧ w = w' := by
  have HL := Lib.hid hl
  have cD := Lib.hid (fun (t : List UInt8) (ht : t.length ≤ maxLen) (b : Nat) (h0 : 2 ≤ b) (h1 : b ≤ 16) W => ldigits_any t b W ht h0 h1)
  have cX := Lib.hid (fun W => Tryd.strings_CutPrefix ⟨l.toArray⟩ ⟨#[48, 120]⟩ W)
  have cM := Lib.hid (fun W => Tryd.strings_CutPrefix ⟨l.toArray⟩ ⟨#[45]⟩ W)
  have HN := Lib.hid (L6.number_raw (l := l))
  have HT := Lib.hid (L6.trimP_len l)
  have HQ := Lib.hid (show L6.quoted3 l = (decide (l.length = 3) && (l.getD 0 0 == 39 && l.getD 2 0 == 39)) from rfl)
  have HNQ := Lib.hid (show L6.quoted3 l = true → L6.number l = ((((l.getD 1 0).toNat : Nat) : Int), true) from fun h => by unfold L6.number; rw [if_pos h])
  by_cases hq : L6.quoted3 l = true
  · have hn := HNQ.out hq
    have HNV := Lib.hid hn
    unfold L6.quoted3 at hq
    simp only [Bool.and_eq_true, decide_eq_true_eq, beq_iff_eq] at hq
    obtain ⟨h3, q0, q2⟩ := hq
    have g0 : 0 < l.length := by omega
    have g1 : 1 < l.length := by omega
    have g2 : 2 < l.length := by omega
    have k3 : (l.length : Int) = 3 := by omega
    have e0 : (((⟨l.toArray⟩ : ByteArray)[0]'g0).toNat : Int) = 39 := by rw [L6.get_data l 0 g0, q0]; rfl
    have e2 : (((⟨l.toArray⟩ : ByteArray)[2]'g2).toNat : Int) = 39 := by rw [L6.get_data l 2 g2, q2]; rfl
    have E1 := Lib.hid (L6.get_data l 1 g1)
    have hw := wrap64_byte ((⟨l.toArray⟩ : ByteArray)[1]'g1)
    clear hn q0 q2 h3
    go_enter Tryd.func110, Tryd.ntmps110
    go_wp2_with fail
    go_ret2
    exact ⟨lret_ib (by rw [HNV.out, ← E1.out]) (by rw [HNV.out]), rfl⟩
  · have HNV := Lib.hid (HN.out (by simpa using hq))
    have HQF := Lib.hid (show L6.quoted3 l = false by simpa using hq)
    clear hq
    go_enter Tryd.func110, Tryd.ntmps110
    go_upto_region 1 with fail
    go_cut [22] (fun s22 wx => s22 = .bool false ∧ wx = w)
    case first =>
      by_cases h3 : l.length = 3
      · have k3 : (l.length : Int) = 3 := by omega
        have g0 : 0 < l.length := by omega
        have g2 : 2 < l.length := by omega
        have e0 : ((((⟨l.toArray⟩ : ByteArray)[0]'g0).toNat : Int) == 39) = (l.getD 0 0 == 39) := by rw [L6.get_data l 0 g0]; exact byte_eq _ 39
        have e2 : ((((⟨l.toArray⟩ : ByteArray)[2]'g2).toNat : Int) == 39) = (l.getD 2 0 == 39) := by rw [L6.get_data l 2 g2]; exact byte_eq _ 39
        have hq := HQF.out
        unfold L6.quoted3 at hq
        rw [decide_eq_true h3, Bool.true_and] at hq
        cases c0 : (l.getD 0 0 == 39)
        · rw [c0] at e0
          clear e2 hq c0 h3
          go_wp2_with fail
          go_meet
          exact ⟨rfl, rfl⟩
        · rw [c0, Bool.true_and] at hq
          rw [c0] at e0
          rw [hq] at e2
          clear hq c0 h3
          go_wp2_with fail
          go_meet
          exact ⟨rfl, rfl⟩
      · have k3 : ((l.length : Int) == 3) = false := by rw [beq_eq_false_iff_ne]; omega
        clear h3
        go_wp2_with fail
        go_meet
        exact ⟨rfl, rfl⟩
    case rest =>
      obtain ⟨rfl, rfl⟩ := hcut
      have HRD : Hid (L6.rawV l = if Lib.hasPrefix l [48, 120] && !(Lib.trimPrefix l [48, 120]).isEmpty then ((((L6.digitsV 16 (Lib.trimPrefix l [48, 120])).1 : Nat) : Int), (L6.digitsV 16 (Lib.trimPrefix l [48, 120])).2)
        else if Lib.hasPrefix l [45] then (-((L6.digitsV 10 (Lib.trimPrefix l [45])).1 : Nat), (L6.digitsV 10 (Lib.trimPrefix l [45])).2) else (((L6.digitsV 10 l).1 : Nat), (L6.digitsV 10 l).2)) := Lib.hid rfl
      have cX' := Lib.hid (fun W => (cX.out W).mono (R' := fun e w' => e = .returned (.tuple #[.string ⟨(Lib.trimPrefix l [48, 120]).toArray⟩, .bool (Lib.hasPrefix l [48, 120])]) ∧ W = w') (fun _ _ h => ⟨h.1, h.2.symm⟩))
      have cM' := Lib.hid (fun W => (cM.out W).mono (R' := fun e w' => e = .returned (.tuple #[.string ⟨(Lib.trimPrefix l [45]).toArray⟩, .bool (Lib.hasPrefix l [45])]) ∧ W = w') (fun _ _ h => ⟨h.1, h.2.symm⟩))
      have HT1 := Lib.hid (Nat.le_trans (HT.out [48, 120]) HL.out)
      have HT2 := Lib.hid (Nat.le_trans (HT.out [45]) HL.out)
      clear HQ HNQ HN cX cM HT
      generalize Lib.trimPrefix l [48, 120] = tx at *
      generalize Lib.trimPrefix l [45] = tm at *
      generalize Lib.hasPrefix l [48, 120] = bx at *
      generalize Lib.hasPrefix l [45] = bm at *
      generalize L6.rawV l = R at *
      obtain ⟨N, O⟩ := R
      dsimp only at HNV
      have HALL := Lib.hid HRD.out
      have hneg : IntKind.i64.wrap (-((L6.digitsV 10 tm).1 : Int)) = -((L6.digitsV 10 tm).1 : Int) := by have := L6.digitsV_le 10 tm; rw [IntKind.wrap_i64]; omega
      have HNEG := Lib.hid hneg
      clear hneg HRD
      cases bx
      · have HL1 := Lib.hid HL.out
        cases bm
        · have HL0 := Lib.hid HL.out
          have CD := Lib.hid (show ∀ W, Calls Tryd.prog 138 #[.string ⟨l.toArray⟩, .int .i64 10] W fun e w' => e = .returned (.tuple #[.int .i64 (L6.digitsV 10 l).1, .bool (L6.digitsV 10 l).2]) ∧ W = w' from fun W => cD.out l HL.out 10 (by decide) (by decide) W)
          have hN : N = (L6.digitsV 10 l).1 := by have := HALL.out; simpa using congrArg Prod.fst this
          have hO : O = (L6.digitsV 10 l).2 := by have := HALL.out; simpa using congrArg Prod.snd this
          clear HALL cD
          generalize (L6.digitsV 10 l).1 = n at *
          generalize (L6.digitsV 10 l).2 = o at *
          subst hN hO
          cases O
          · have HR := Lib.hid (show L6.number l = (0, false) from by rw [HNV.out]; rfl)
            clear HNV
            go_wp2_with (first | (go_at_call 137; with_reducible refine (cX'.out _).mono ?_; rintro e w' ⟨rfl, rfl⟩) | (go_at_call 137; with_reducible refine (cM'.out _).mono ?_; rintro e w' ⟨rfl, rfl⟩) | (go_at_call 138; refine (CD.out _).mono ?_; rintro e w' ⟨rfl, rfl⟩))
            go_ret2
            exact ⟨lret_ib (by rw [HR.out]; try rfl) (by rw [HR.out]), rfl⟩
          · by_cases hlo : (n : Int) < -2147483648
            · have HR := Lib.hid (show L6.number l = (0, false) from by rw [HNV.out, decide_eq_false (by omega : ¬ (-2147483648 ≤ (n : Int)))]; rfl)
              clear HNV
              go_wp2_with (first | (go_at_call 137; with_reducible refine (cX'.out _).mono ?_; rintro e w' ⟨rfl, rfl⟩) | (go_at_call 137; with_reducible refine (cM'.out _).mono ?_; rintro e w' ⟨rfl, rfl⟩) | (go_at_call 138; refine (CD.out _).mono ?_; rintro e w' ⟨rfl, rfl⟩))
              go_ret2
              exact ⟨lret_ib (by rw [HR.out]; try rfl) (by rw [HR.out]), rfl⟩
            · by_cases hhi : 4294967295 < (n : Int)
              · have HR := Lib.hid (show L6.number l = (0, false) from by rw [HNV.out, decide_eq_false (by omega : ¬ ((n : Int) ≤ 4294967295)), Bool.and_false, Bool.and_false]; rfl)
                clear HNV
                go_wp2_with (first | (go_at_call 137; with_reducible refine (cX'.out _).mono ?_; rintro e w' ⟨rfl, rfl⟩) | (go_at_call 137; with_reducible refine (cM'.out _).mono ?_; rintro e w' ⟨rfl, rfl⟩) | (go_at_call 138; refine (CD.out _).mono ?_; rintro e w' ⟨rfl, rfl⟩))
                go_ret2
                exact ⟨lret_ib (by rw [HR.out]; try rfl) (by rw [HR.out]), rfl⟩
              · have HR := Lib.hid (show L6.number l = ((n : Int), true) from by rw [HNV.out, decide_eq_true (by omega : (n : Int) ≤ 4294967295), decide_eq_true (by omega : -2147483648 ≤ (n : Int))]; rfl)
                clear HNV
                go_wp2_with (first | (go_at_call 137; with_reducible refine (cX'.out _).mono ?_; rintro e w' ⟨rfl, rfl⟩) | (go_at_call 137; with_reducible refine (cM'.out _).mono ?_; rintro e w' ⟨rfl, rfl⟩) | (go_at_call 138; refine (CD.out _).mono ?_; rintro e w' ⟨rfl, rfl⟩))
                go_ret2
                exact ⟨lret_ib (by rw [HR.out]) (by rw [HR.out]), rfl⟩
        · have HL0 := Lib.hid HL.out
          have CD := Lib.hid (show ∀ W, Calls Tryd.prog 138 #[.string ⟨tm.toArray⟩, .int .i64 10] W fun e w' => e = .returned (.tuple #[.int .i64 (L6.digitsV 10 tm).1, .bool (L6.digitsV 10 tm).2]) ∧ W = w' from fun W => cD.out tm HT2.out 10 (by decide) (by decide) W)
          have hneg := HNEG.out
          have hN : N = -(L6.digitsV 10 tm).1 := by have := HALL.out; simpa using congrArg Prod.fst this
          have hO : O = (L6.digitsV 10 tm).2 := by have := HALL.out; simpa using congrArg Prod.snd this
          clear HALL cD
          generalize (L6.digitsV 10 tm).1 = n at *
          generalize (L6.digitsV 10 tm).2 = o at *
          subst hN hO
          cases O
          · have HR := Lib.hid (show L6.number l = (0, false) from by rw [HNV.out]; rfl)
            clear HNV
            go_wp2_with (first | (go_at_call 137; with_reducible refine (cX'.out _).mono ?_; rintro e w' ⟨rfl, rfl⟩) | (go_at_call 137; with_reducible refine (cM'.out _).mono ?_; rintro e w' ⟨rfl, rfl⟩) | (go_at_call 138; refine (CD.out _).mono ?_; rintro e w' ⟨rfl, rfl⟩))
            go_ret2
            exact ⟨lret_ib (by rw [HR.out]; try rfl) (by rw [HR.out]), rfl⟩
          · by_cases hlo : -(n : Int) < -2147483648
            · have HR := Lib.hid (show L6.number l = (0, false) from by rw [HNV.out, decide_eq_false (by omega : ¬ (-2147483648 ≤ -(n : Int)))]; rfl)
              clear HNV
              go_wp2_with (first | (go_at_call 137; with_reducible refine (cX'.out _).mono ?_; rintro e w' ⟨rfl, rfl⟩) | (go_at_call 137; with_reducible refine (cM'.out _).mono ?_; rintro e w' ⟨rfl, rfl⟩) | (go_at_call 138; refine (CD.out _).mono ?_; rintro e w' ⟨rfl, rfl⟩))
              go_ret2
              exact ⟨lret_ib (by rw [HR.out]; try rfl) (by rw [HR.out]), rfl⟩
            · by_cases hhi : 4294967295 < -(n : Int)
              · exact absurd hhi (by omega)
              · have HR := Lib.hid (show L6.number l = (-(n : Int), true) from by rw [HNV.out, decide_eq_true (by omega : -(n : Int) ≤ 4294967295), decide_eq_true (by omega : -2147483648 ≤ -(n : Int))]; rfl)
                clear HNV
                go_wp2_with (first | (go_at_call 137; with_reducible refine (cX'.out _).mono ?_; rintro e w' ⟨rfl, rfl⟩) | (go_at_call 137; with_reducible refine (cM'.out _).mono ?_; rintro e w' ⟨rfl, rfl⟩) | (go_at_call 138; refine (CD.out _).mono ?_; rintro e w' ⟨rfl, rfl⟩))
                go_ret2
                exact ⟨lret_ib (by rw [HR.out]) (by rw [HR.out]), rfl⟩
      · cases tx with
        | nil =>
          cases bm
          · have HL0 := Lib.hid HL.out
            have CD := Lib.hid (show ∀ W, Calls Tryd.prog 138 #[.string ⟨l.toArray⟩, .int .i64 10] W fun e w' => e = .returned (.tuple #[.int .i64 (L6.digitsV 10 l).1, .bool (L6.digitsV 10 l).2]) ∧ W = w' from fun W => cD.out l HL.out 10 (by decide) (by decide) W)
            have hN : N = (L6.digitsV 10 l).1 := by have := HALL.out; simpa using congrArg Prod.fst this
            have hO : O = (L6.digitsV 10 l).2 := by have := HALL.out; simpa using congrArg Prod.snd this
            clear HALL cD
            generalize (L6.digitsV 10 l).1 = n at *
            generalize (L6.digitsV 10 l).2 = o at *
            subst hN hO
            cases O
            · have HR := Lib.hid (show L6.number l = (0, false) from by rw [HNV.out]; rfl)
              clear HNV
              go_wp2_with (first | (go_at_call 137; with_reducible refine (cX'.out _).mono ?_; rintro e w' ⟨rfl, rfl⟩) | (go_at_call 137; with_reducible refine (cM'.out _).mono ?_; rintro e w' ⟨rfl, rfl⟩) | (go_at_call 138; refine (CD.out _).mono ?_; rintro e w' ⟨rfl, rfl⟩))
              go_ret2
              exact ⟨lret_ib (by rw [HR.out]; try rfl) (by rw [HR.out]), rfl⟩
            · by_cases hlo : (n : Int) < -2147483648
              · have HR := Lib.hid (show L6.number l = (0, false) from by rw [HNV.out, decide_eq_false (by omega : ¬ (-2147483648 ≤ (n : Int)))]; rfl)
                clear HNV
                go_wp2_with (first | (go_at_call 137; with_reducible refine (cX'.out _).mono ?_; rintro e w' ⟨rfl, rfl⟩) | (go_at_call 137; with_reducible refine (cM'.out _).mono ?_; rintro e w' ⟨rfl, rfl⟩) | (go_at_call 138; refine (CD.out _).mono ?_; rintro e w' ⟨rfl, rfl⟩))
                go_ret2
                exact ⟨lret_ib (by rw [HR.out]; try rfl) (by rw [HR.out]), rfl⟩
              · by_cases hhi : 4294967295 < (n : Int)
                · have HR := Lib.hid (show L6.number l = (0, false) from by rw [HNV.out, decide_eq_false (by omega : ¬ ((n : Int) ≤ 4294967295)), Bool.and_false, Bool.and_false]; rfl)
                  clear HNV
                  go_wp2_with (first | (go_at_call 137; with_reducible refine (cX'.out _).mono ?_; rintro e w' ⟨rfl, rfl⟩) | (go_at_call 137; with_reducible refine (cM'.out _).mono ?_; rintro e w' ⟨rfl, rfl⟩) | (go_at_call 138; refine (CD.out _).mono ?_; rintro e w' ⟨rfl, rfl⟩))
                  go_ret2
                  exact ⟨lret_ib (by rw [HR.out]; try rfl) (by rw [HR.out]), rfl⟩
                · have HR := Lib.hid (show L6.number l = ((n : Int), true) from by rw [HNV.out, decide_eq_true (by omega : (n : Int) ≤ 4294967295), decide_eq_true (by omega : -2147483648 ≤ (n : Int))]; rfl)
                  clear HNV
                  go_wp2_with (first | (go_at_call 137; with_reducible refine (cX'.out _).mono ?_; rintro e w' ⟨rfl, rfl⟩) | (go_at_call 137; with_reducible refine (cM'.out _).mono ?_; rintro e w' ⟨rfl, rfl⟩) | (go_at_call 138; refine (CD.out _).mono ?_; rintro e w' ⟨rfl, rfl⟩))
                  go_ret2
                  exact ⟨lret_ib (by rw [HR.out]) (by rw [HR.out]), rfl⟩
          · have HL0 := Lib.hid HL.out
            have CD := Lib.hid (show ∀ W, Calls Tryd.prog 138 #[.string ⟨tm.toArray⟩, .int .i64 10] W fun e w' => e = .returned (.tuple #[.int .i64 (L6.digitsV 10 tm).1, .bool (L6.digitsV 10 tm).2]) ∧ W = w' from fun W => cD.out tm HT2.out 10 (by decide) (by decide) W)
            have hneg := HNEG.out
            have hN : N = -(L6.digitsV 10 tm).1 := by have := HALL.out; simpa using congrArg Prod.fst this
            have hO : O = (L6.digitsV 10 tm).2 := by have := HALL.out; simpa using congrArg Prod.snd this
            clear HALL cD
            generalize (L6.digitsV 10 tm).1 = n at *
            generalize (L6.digitsV 10 tm).2 = o at *
            subst hN hO
            cases O
            · have HR := Lib.hid (show L6.number l = (0, false) from by rw [HNV.out]; rfl)
              clear HNV
              go_wp2_with (first | (go_at_call 137; with_reducible refine (cX'.out _).mono ?_; rintro e w' ⟨rfl, rfl⟩) | (go_at_call 137; with_reducible refine (cM'.out _).mono ?_; rintro e w' ⟨rfl, rfl⟩) | (go_at_call 138; refine (CD.out _).mono ?_; rintro e w' ⟨rfl, rfl⟩))
              go_ret2
              exact ⟨lret_ib (by rw [HR.out]; try rfl) (by rw [HR.out]), rfl⟩
            · by_cases hlo : -(n : Int) < -2147483648
              · have HR := Lib.hid (show L6.number l = (0, false) from by rw [HNV.out, decide_eq_false (by omega : ¬ (-2147483648 ≤ -(n : Int)))]; rfl)
                clear HNV
                go_wp2_with (first | (go_at_call 137; with_reducible refine (cX'.out _).mono ?_; rintro e w' ⟨rfl, rfl⟩) | (go_at_call 137; with_reducible refine (cM'.out _).mono ?_; rintro e w' ⟨rfl, rfl⟩) | (go_at_call 138; refine (CD.out _).mono ?_; rintro e w' ⟨rfl, rfl⟩))
                go_ret2
                exact ⟨lret_ib (by rw [HR.out]; try rfl) (by rw [HR.out]), rfl⟩
              · by_cases hhi : 4294967295 < -(n : Int)
                · exact absurd hhi (by omega)
                · have HR := Lib.hid (show L6.number l = (-(n : Int), true) from by rw [HNV.out, decide_eq_true (by omega : -(n : Int) ≤ 4294967295), decide_eq_true (by omega : -2147483648 ≤ -(n : Int))]; rfl)
                  clear HNV
                  go_wp2_with (first | (go_at_call 137; with_reducible refine (cX'.out _).mono ?_; rintro e w' ⟨rfl, rfl⟩) | (go_at_call 137; with_reducible refine (cM'.out _).mono ?_; rintro e w' ⟨rfl, rfl⟩) | (go_at_call 138; refine (CD.out _).mono ?_; rintro e w' ⟨rfl, rfl⟩))
                  go_ret2
                  exact ⟨lret_ib (by rw [HR.out]) (by rw [HR.out]), rfl⟩
        | cons c tx =>
          have CD := Lib.hid (show ∀ W, Calls Tryd.prog 138 #[.string ⟨(c :: tx).toArray⟩, .int .i64 16] W fun e w' => e = .returned (.tuple #[.int .i64 (L6.digitsV 16 (c :: tx)).1, .bool (L6.digitsV 16 (c :: tx)).2]) ∧ W = w' from fun W => cD.out (c :: tx) HT1.out 16 (by decide) (by decide) W)
          have hN : N = (L6.digitsV 16 (c :: tx)).1 := by have := HALL.out; simpa using congrArg Prod.fst this
          have hO : O = (L6.digitsV 16 (c :: tx)).2 := by have := HALL.out; simpa using congrArg Prod.snd this
          clear HALL cD
          generalize (L6.digitsV 16 (c :: tx)).1 = n at *
          generalize (L6.digitsV 16 (c :: tx)).2 = o at *
          subst hN hO
          cases O
          · have HR := Lib.hid (show L6.number l = (0, false) from by rw [HNV.out]; rfl)
            clear HNV
            go_wp2_with (first | (go_at_call 137; with_reducible refine (cX'.out _).mono ?_; rintro e w' ⟨rfl, rfl⟩) | (go_at_call 137; with_reducible refine (cM'.out _).mono ?_; rintro e w' ⟨rfl, rfl⟩) | (go_at_call 138; refine (CD.out _).mono ?_; rintro e w' ⟨rfl, rfl⟩))
            go_ret2
            exact ⟨lret_ib (by rw [HR.out]; try rfl) (by rw [HR.out]), rfl⟩
          · by_cases hlo : (n : Int) < -2147483648
            · have HR := Lib.hid (show L6.number l = (0, false) from by rw [HNV.out, decide_eq_false (by omega : ¬ (-2147483648 ≤ (n : Int)))]; rfl)
              clear HNV
              go_wp2_with (first | (go_at_call 137; with_reducible refine (cX'.out _).mono ?_; rintro e w' ⟨rfl, rfl⟩) | (go_at_call 137; with_reducible refine (cM'.out _).mono ?_; rintro e w' ⟨rfl, rfl⟩) | (go_at_call 138; refine (CD.out _).mono ?_; rintro e w' ⟨rfl, rfl⟩))
              go_ret2
              exact ⟨lret_ib (by rw [HR.out]; try rfl) (by rw [HR.out]), rfl⟩
            · by_cases hhi : 4294967295 < (n : Int)
              · have HR := Lib.hid (show L6.number l = (0, false) from by rw [HNV.out, decide_eq_false (by omega : ¬ ((n : Int) ≤ 4294967295)), Bool.and_false, Bool.and_false]; rfl)
                clear HNV
                go_wp2_with (first | (go_at_call 137; with_reducible refine (cX'.out _).mono ?_; rintro e w' ⟨rfl, rfl⟩) | (go_at_call 137; with_reducible refine (cM'.out _).mono ?_; rintro e w' ⟨rfl, rfl⟩) | (go_at_call 138; refine (CD.out _).mono ?_; rintro e w' ⟨rfl, rfl⟩))
                go_ret2
                exact ⟨lret_ib (by rw [HR.out]; try rfl) (by rw [HR.out]), rfl⟩
              · have HR := Lib.hid (show L6.number l = ((n : Int), true) from by rw [HNV.out, decide_eq_true (by omega : (n : Int) ≤ 4294967295), decide_eq_true (by omega : -2147483648 ≤ (n : Int))]; rfl)
                clear HNV
                go_wp2_with (first | (go_at_call 137; with_reducible refine (cX'.out _).mono ?_; rintro e w' ⟨rfl, rfl⟩) | (go_at_call 137; with_reducible refine (cM'.out _).mono ?_; rintro e w' ⟨rfl, rfl⟩) | (go_at_call 138; refine (CD.out _).mono ?_; rintro e w' ⟨rfl, rfl⟩))
                go_ret2
                exact ⟨lret_ib (by rw [HR.out]) (by rw [HR.out]), rfl⟩
end Go.Proofs.YtfafdkbnmfpbmaaDoor

/- The walks of counted, rows, Register. -/
namespace Go.Proofs.YtfafdkbnmfpbmaaDoor
open Go.RowKit Kit
set_option linter.unusedVariables false
set_option linter.unusedSimpArgs false

def L6.Tab (w : World) : Prop := Lib.TabIs Tryd.prog w "internal/strconv.uint64pow10" .u64 Lib.pow10Tab
theorem below_grew (w : World) (k : Nat) (os : Array Obj) : Below w.heap.size w (Sort.grow (w.drewN k) os) :=
  ⟨rfl, rfl, rfl, by simp [Sort.grow, World.drewN], fun i hi => by simp only [Sort.grow, World.drewN, Array.getElem?_append]; rw [if_pos hi]⟩
theorem litoa_any (n : Nat) (w : World) (hn : n ≤ 4294967296) (h : n < 100 ∨ L6.Tab w) : Calls Tryd.prog 83 #[.int .i64 (n : Int)] w fun e w' => e = .returned (.string ⟨(Lib.decDigits n).toArray⟩) ∧ Below w.heap.size w w' := by
  rcases h with h | h
  · exact (Tryd.strconv_Itoa_small n h w).mono fun e w' hh => ⟨hh.1, by rw [hh.2]; exact Below.refl _ _⟩
  · refine (Tryd.strconv_Itoa n (by omega) (by omega) w h).mono ?_
    rintro e w' ⟨rfl, k, os, rfl⟩
    exact ⟨by rw [Lib.itoa_nonneg], below_grew w k os⟩
def L6.rowsV (c : UInt8) (n : Nat) : Nat × Bool :=
  if c = 120 ∧ n < 32 then (n, true) else if c = 116 ∧ n < 3 then (5 + n, true) else if c = 116 ∧ n < 7 then (25 + n, true)
  else if c = 115 ∧ n < 2 then (8 + n, true) else if c = 115 ∧ n < 12 then (16 + n, true) else if c = 97 ∧ n < 8 then (10 + n, true) else (0, false)
theorem byte_ne {c : UInt8} (d : UInt8) (h : c ≠ d) : ((c.toNat : Int) == (d.toNat : Int)) = false := by rw [byte_eq]; simpa using h
set_option maxRecDepth 20000 in
theorem lrows_any (c : UInt8) (n : Nat) (w : World) (hn : n ≤ 4294967296) : Calls Tryd.prog 178 #[.int .u8 c.toNat, .int .i64 (n : Int)] w fun e w' => e = .returned (.tuple #[.int .i64 (L6.rowsV c n).1, .bool (L6.rowsV c n).2]) ∧ w = w' := by
  by_cases h1 : c = 120
  · subst h1
    by_cases a1 : n < 32
    · have b1 : (n : Int) < 32 := by omega
      have HR := Lib.hid (show L6.rowsV 120 n = (n, true) from by unfold L6.rowsV; simp [a1])
      go_enter Tryd.func178, Tryd.ntmps178
      go_wp2_with fail
      go_ret2
      exact ⟨lret_ib (by rw [HR.out]) (by rw [HR.out]), rfl⟩
    · have b1 : ¬ (n : Int) < 32 := by omega
      have HR := Lib.hid (show L6.rowsV 120 n = (0, false) from by unfold L6.rowsV; simp [a1])
      go_enter Tryd.func178, Tryd.ntmps178
      go_wp2_with fail
      go_ret2
      exact ⟨lret_ib (by rw [HR.out]; rfl) (by rw [HR.out]), rfl⟩
  have f1 : ((c.toNat : Int) == 120) = false := byte_ne 120 h1
  by_cases h2 : c = 116
  · subst h2
    by_cases a1 : n < 3
    · have b1 : (n : Int) < 3 := by omega
      have hw : IntKind.i64.wrap (5 + (n : Int)) = 5 + (n : Int) := by rw [IntKind.wrap_i64]; omega
      have HR := Lib.hid (show L6.rowsV 116 n = (5 + n, true) from by unfold L6.rowsV; simp [a1])
      clear f1 h1
      go_enter Tryd.func178, Tryd.ntmps178
      go_wp2_with fail
      go_ret2
      exact ⟨lret_ib (by rw [HR.out]; simp) (by rw [HR.out]), rfl⟩
    · have b1 : ¬ (n : Int) < 3 := by omega
      by_cases a2 : n < 7
      · have b2 : (n : Int) < 7 := by omega
        have hw : IntKind.i64.wrap (25 + (n : Int)) = 25 + (n : Int) := by rw [IntKind.wrap_i64]; omega
        have HR := Lib.hid (show L6.rowsV 116 n = (25 + n, true) from by unfold L6.rowsV; simp [a1, a2])
        clear f1 h1
        go_enter Tryd.func178, Tryd.ntmps178
        go_wp2_with fail
        go_ret2
        exact ⟨lret_ib (by rw [HR.out]; simp) (by rw [HR.out]), rfl⟩
      · have b2 : ¬ (n : Int) < 7 := by omega
        have HR := Lib.hid (show L6.rowsV 116 n = (0, false) from by unfold L6.rowsV; simp [a1, a2])
        clear f1 h1
        go_enter Tryd.func178, Tryd.ntmps178
        go_wp2_with fail
        go_ret2
        exact ⟨lret_ib (by rw [HR.out]; rfl) (by rw [HR.out]), rfl⟩
  have f2 : ((c.toNat : Int) == 116) = false := byte_ne 116 h2
  by_cases h3 : c = 115
  · subst h3
    by_cases a1 : n < 2
    · have b1 : (n : Int) < 2 := by omega
      have hw : IntKind.i64.wrap (8 + (n : Int)) = 8 + (n : Int) := by rw [IntKind.wrap_i64]; omega
      have HR := Lib.hid (show L6.rowsV 115 n = (8 + n, true) from by unfold L6.rowsV; simp [a1])
      clear f1 h1 f2 h2
      go_enter Tryd.func178, Tryd.ntmps178
      go_wp2_with fail
      go_ret2
      exact ⟨lret_ib (by rw [HR.out]; simp) (by rw [HR.out]), rfl⟩
    · have b1 : ¬ (n : Int) < 2 := by omega
      by_cases a2 : n < 12
      · have b2 : (n : Int) < 12 := by omega
        have hw : IntKind.i64.wrap (16 + (n : Int)) = 16 + (n : Int) := by rw [IntKind.wrap_i64]; omega
        have HR := Lib.hid (show L6.rowsV 115 n = (16 + n, true) from by unfold L6.rowsV; simp [a1, a2])
        clear f1 h1 f2 h2
        go_enter Tryd.func178, Tryd.ntmps178
        go_wp2_with fail
        go_ret2
        exact ⟨lret_ib (by rw [HR.out]; simp) (by rw [HR.out]), rfl⟩
      · have b2 : ¬ (n : Int) < 12 := by omega
        have HR := Lib.hid (show L6.rowsV 115 n = (0, false) from by unfold L6.rowsV; simp [a1, a2])
        clear f1 h1 f2 h2
        go_enter Tryd.func178, Tryd.ntmps178
        go_wp2_with fail
        go_ret2
        exact ⟨lret_ib (by rw [HR.out]; rfl) (by rw [HR.out]), rfl⟩
  have f3 : ((c.toNat : Int) == 115) = false := byte_ne 115 h3
  by_cases h4 : c = 97
  · subst h4
    by_cases a1 : n < 8
    · have b1 : (n : Int) < 8 := by omega
      have hw : IntKind.i64.wrap (10 + (n : Int)) = 10 + (n : Int) := by rw [IntKind.wrap_i64]; omega
      have HR := Lib.hid (show L6.rowsV 97 n = (10 + n, true) from by unfold L6.rowsV; simp [a1])
      clear f1 h1 f2 h2 f3 h3
      go_enter Tryd.func178, Tryd.ntmps178
      go_wp2_with fail
      go_ret2
      exact ⟨lret_ib (by rw [HR.out]; simp) (by rw [HR.out]), rfl⟩
    · have b1 : ¬ (n : Int) < 8 := by omega
      have HR := Lib.hid (show L6.rowsV 97 n = (0, false) from by unfold L6.rowsV; simp [a1])
      clear f1 h1 f2 h2 f3 h3
      go_enter Tryd.func178, Tryd.ntmps178
      go_wp2_with fail
      go_ret2
      exact ⟨lret_ib (by rw [HR.out]; rfl) (by rw [HR.out]), rfl⟩
  have f4 : ((c.toNat : Int) == 97) = false := byte_ne 97 h4
  have HR := Lib.hid (show L6.rowsV c n = (0, false) from by unfold L6.rowsV; simp [h1, h2, h3, h4])
  clear h1 h2 h3 h4
  go_enter Tryd.func178, Tryd.ntmps178
  go_wp2_with fail
  go_ret2
  exact ⟨lret_ib (by rw [HR.out]; rfl) (by rw [HR.out]), rfl⟩
def L6.countedV (l : List UInt8) : Nat × Bool := ((L6.digitsV 10 l).1, (L6.digitsV 10 l).2 && (Lib.decDigits (L6.digitsV 10 l).1 == l))
/-- Where the table of tens is wanted. -/
def L6.Few (l : List UInt8) (w : World) : Prop := (L6.digitsV 10 l).1 < 100 ∨ L6.Tab w
theorem lcounted_any (l : List UInt8) (w : World) (hl : l.length ≤ maxLen) (hf : L6.Few l w) : Calls Tryd.prog 177 #[.string ⟨l.toArray⟩] w fun e w' => e = .returned (.tuple #[.int .i64 (L6.countedV l).1, .bool (L6.countedV l).2]) ∧ Below w.heap.size w w' := by
  have CD := Lib.hid (show ∀ W, Calls Tryd.prog 138 #[.string ⟨l.toArray⟩, .int .i64 10] W fun e w' => e = .returned (.tuple #[.int .i64 (L6.digitsV 10 l).1, .bool (L6.digitsV 10 l).2]) ∧ W = w' from fun W => ldigits_any l 10 W hl (by decide) (by decide))
  have CI := Lib.hid (litoa_any (L6.digitsV 10 l).1 w (L6.digitsV_le 10 l) hf)
  have HV := Lib.hid (show L6.countedV l = ((L6.digitsV 10 l).1, (L6.digitsV 10 l).2 && (Lib.decDigits (L6.digitsV 10 l).1 == l)) from rfl)
  clear hf
  generalize (L6.digitsV 10 l).1 = n at *
  generalize (L6.digitsV 10 l).2 = o at *
  cases o
  · go_enter Tryd.func177, Tryd.ntmps177
    go_wp2_with (go_at_call 138; refine (CD.out _).mono ?_; rintro e w' ⟨rfl, rfl⟩)
    go_ret2
    exact ⟨lret_ib (by rw [HV.out]) (by rw [HV.out]; rfl), Below.refl _ _⟩
  · cases hx : (Lib.decDigits n == l)
    · rw [hx] at HV
      go_enter Tryd.func177, Tryd.ntmps177
      go_wp2_with (first | (go_at_call 138; refine (CD.out _).mono ?_; rintro e w' ⟨rfl, rfl⟩) | (go_at_call 83; refine CI.out.mono ?_; rintro e w' ⟨rfl, hb⟩))
      go_ret2
      exact ⟨lret_ib (by rw [HV.out]) (by rw [HV.out]; rfl), hb⟩
    · rw [hx] at HV
      go_enter Tryd.func177, Tryd.ntmps177
      go_wp2_with (first | (go_at_call 138; refine (CD.out _).mono ?_; rintro e w' ⟨rfl, rfl⟩) | (go_at_call 83; refine CI.out.mono ?_; rintro e w' ⟨rfl, hb⟩))
      go_ret2
      exact ⟨lret_ib (by rw [HV.out]) (by rw [HV.out]; rfl), hb⟩
def L6.zero : List UInt8 := [122, 101, 114, 111]
def L6.regV (l : List UInt8) : Nat × Bool :=
  if l = [] then (0, false) else if l = [122, 101, 114, 111] then (0, true) else if l = [114, 97] then (1, true) else if l = [115, 112] then (2, true) else if l = [103, 112] then (3, true) else if l = [116, 112] then (4, true)
  else cond (L6.countedV l.tail).2 (L6.rowsV (l.headD 0) (L6.countedV l.tail).1) (0, false)
theorem L6.rows_le (c : UInt8) (n : Nat) : True := trivial
set_option maxRecDepth 20000 in
theorem lreg_any (l : List UInt8) (w : World) (hl : l.length ≤ maxLen) (hf : L6.Few l.tail w) : Calls Tryd.prog 167 #[.string ⟨l.toArray⟩] w fun e w' => e = .returned (.tuple #[.int .i64 (L6.regV l).1, .bool (L6.regV l).2]) ∧ Below w.heap.size w w' := by
  by_cases h1 : l = []
  · subst h1
    go_enter Tryd.func167, Tryd.ntmps167
    go_wp2_with fail
    go_ret2
    exact ⟨rfl, Below.refl _ _⟩
  by_cases h2 : l = [122, 101, 114, 111]
  · subst h2
    go_enter Tryd.func167, Tryd.ntmps167
    go_wp2_with fail
    go_ret2
    exact ⟨rfl, Below.refl _ _⟩
  by_cases h3 : l = [114, 97]
  · subst h3
    go_enter Tryd.func167, Tryd.ntmps167
    go_wp2_with fail
    go_ret2
    exact ⟨rfl, Below.refl _ _⟩
  by_cases h4 : l = [115, 112]
  · subst h4
    go_enter Tryd.func167, Tryd.ntmps167
    go_wp2_with fail
    go_ret2
    exact ⟨rfl, Below.refl _ _⟩
  by_cases h5 : l = [103, 112]
  · subst h5
    go_enter Tryd.func167, Tryd.ntmps167
    go_wp2_with fail
    go_ret2
    exact ⟨rfl, Below.refl _ _⟩
  by_cases h6 : l = [116, 112]
  · subst h6
    go_enter Tryd.func167, Tryd.ntmps167
    go_wp2_with fail
    go_ret2
    exact ⟨rfl, Below.refl _ _⟩
  have HV := Lib.hid (show L6.regV l = cond (L6.countedV l.tail).2 (L6.rowsV (l.headD 0) (L6.countedV l.tail).1) (0, false) from by unfold L6.regV; simp only [h1, h2, h3, h4, h5, h6, if_false])
  cases l with
  | nil => exact absurd rfl h1
  | cons c t =>
    have ht : t.length ≤ maxLen := by simp only [List.length_cons] at hl; omega
    have CC := Lib.hid (lcounted_any t w ht hf)
    have hx1 : (⟨(c :: t).toArray⟩ : ByteArray).extract 1 (t.length + 1) = ⟨t.toArray⟩ := by rw [ext_eq]; simp
    have hle : t.length + 1 ≤ 9223372036854775807 := by unfold maxLen at hl; simpa using hl
    have g2 : ((c :: t) == [122, 101, 114, 111]) = false := by simpa using h2
    have g3 : ((c :: t) == [114, 97]) = false := by simpa using h3
    have g4 : ((c :: t) == [115, 112]) = false := by simpa using h4
    have g5 : ((c :: t) == [103, 112]) = false := by simpa using h5
    have g6 : ((c :: t) == [116, 112]) = false := by simpa using h6
    have HT := Lib.hid (show (L6.countedV t).1 ≤ 4294967296 from L6.digitsV_le 10 t)
    have CR := Lib.hid (fun W => lrows_any c (L6.countedV t).1 W HT.out)
    clear h1 h2 h3 h4 h5 h6 hl ht hf HT
    dsimp only [List.tail_cons, List.headD_cons] at HV
    obtain ⟨n, o, hR⟩ : ∃ n o, L6.countedV t = (n, o) := ⟨_, _, rfl⟩
    rw [hR] at HV CC CR
    clear hR
    cases o
    · go_enter Tryd.func167, Tryd.ntmps167
      go_wp2_with (go_at_call 177; refine CC.out.mono ?_; rintro e w' ⟨rfl, hb⟩)
      go_ret2
      exact ⟨lret_ib (by rw [HV.out]; rfl) (by rw [HV.out]; rfl), hb⟩
    · go_enter Tryd.func167, Tryd.ntmps167
      go_wp2_with (first | (go_at_call 177; refine CC.out.mono ?_; rintro e w' ⟨rfl, hb⟩) | (go_at_call 178; refine (CR.out _).mono ?_; rintro e w2 ⟨rfl, rfl⟩))
      go_ret2
      exact ⟨lret_ib (by rw [HV.out]; rfl) (by rw [HV.out]; rfl), hb⟩
end Go.Proofs.YtfafdkbnmfpbmaaDoor

/- The table of instructions: plain. -/
namespace Go.Proofs.YtfafdkbnmfpbmaaDoor
/-- name, shape, opcode, functs. -/
structure Is.Form where
  name : List UInt8
  shape : Nat
  code : Nat
  three : Nat
  seven : Nat
  deriving DecidableEq, Inhabited
def Is.forms : List Is.Form := [
  ⟨[108, 117, 105], 0, 55, 0, 0⟩,
  ⟨[97, 117, 105, 112, 99], 0, 23, 0, 0⟩,
  ⟨[106, 97, 108], 1, 111, 0, 0⟩,
  ⟨[106, 97, 108, 114], 2, 103, 0, 0⟩,
  ⟨[98, 101, 113], 3, 99, 0, 0⟩,
  ⟨[98, 110, 101], 3, 99, 1, 0⟩,
  ⟨[98, 108, 116], 3, 99, 4, 0⟩,
  ⟨[98, 103, 101], 3, 99, 5, 0⟩,
  ⟨[98, 108, 116, 117], 3, 99, 6, 0⟩,
  ⟨[98, 103, 101, 117], 3, 99, 7, 0⟩,
  ⟨[108, 98], 2, 3, 0, 0⟩,
  ⟨[108, 104], 2, 3, 1, 0⟩,
  ⟨[108, 119], 2, 3, 2, 0⟩,
  ⟨[108, 98, 117], 2, 3, 4, 0⟩,
  ⟨[108, 104, 117], 2, 3, 5, 0⟩,
  ⟨[115, 98], 4, 35, 0, 0⟩,
  ⟨[115, 104], 4, 35, 1, 0⟩,
  ⟨[115, 119], 4, 35, 2, 0⟩,
  ⟨[97, 100, 100, 105], 2, 19, 0, 0⟩,
  ⟨[115, 108, 116, 105], 2, 19, 2, 0⟩,
  ⟨[115, 108, 116, 105, 117], 2, 19, 3, 0⟩,
  ⟨[120, 111, 114, 105], 2, 19, 4, 0⟩,
  ⟨[111, 114, 105], 2, 19, 6, 0⟩,
  ⟨[97, 110, 100, 105], 2, 19, 7, 0⟩,
  ⟨[115, 108, 108, 105], 5, 19, 1, 0⟩,
  ⟨[115, 114, 108, 105], 5, 19, 5, 0⟩,
  ⟨[115, 114, 97, 105], 5, 19, 5, 32⟩,
  ⟨[97, 100, 100], 6, 51, 0, 0⟩,
  ⟨[115, 117, 98], 6, 51, 0, 32⟩,
  ⟨[115, 108, 108], 6, 51, 1, 0⟩,
  ⟨[115, 108, 116], 6, 51, 2, 0⟩,
  ⟨[115, 108, 116, 117], 6, 51, 3, 0⟩,
  ⟨[120, 111, 114], 6, 51, 4, 0⟩,
  ⟨[115, 114, 108], 6, 51, 5, 0⟩,
  ⟨[115, 114, 97], 6, 51, 5, 32⟩,
  ⟨[111, 114], 6, 51, 6, 0⟩,
  ⟨[97, 110, 100], 6, 51, 7, 0⟩,
  ⟨[102, 101, 110, 99, 101], 8, 15, 0, 0⟩,
  ⟨[101, 99, 97, 108, 108], 7, 115, 0, 0⟩,
  ⟨[101, 98, 114, 101, 97, 107], 7, 115, 0, 0⟩,
  ⟨[109, 117, 108], 6, 51, 0, 1⟩,
  ⟨[109, 117, 108, 104], 6, 51, 1, 1⟩,
  ⟨[109, 117, 108, 104, 115, 117], 6, 51, 2, 1⟩,
  ⟨[109, 117, 108, 104, 117], 6, 51, 3, 1⟩,
  ⟨[100, 105, 118], 6, 51, 4, 1⟩,
  ⟨[100, 105, 118, 117], 6, 51, 5, 1⟩,
  ⟨[114, 101, 109], 6, 51, 6, 1⟩,
  ⟨[114, 101, 109, 117], 6, 51, 7, 1⟩]
end Go.Proofs.YtfafdkbnmfpbmaaDoor

/- The walk of isa.forms: a table. -/
namespace Go.Proofs.YtfafdkbnmfpbmaaDoor
open Go.RowKit
set_option linter.unusedVariables false
set_option linter.unusedSimpArgs false

def Is.fv (f : Is.Form) : List Value := [.string ⟨f.name.toArray⟩, .int .i64 f.shape, .int .u32 f.code, .int .u32 f.three, .int .u32 f.seven]
def Is.cells : Array Value := (Is.forms.flatMap Is.fv).toArray

/-- A row of composite literals, reckoned at once. -/
def buildAll (P : Program) : List Oper → Act → Option Act
  | [], a => some a
  | o :: l, a =>
    match o.op, o.guard with
    | .build t parts, none =>
      match P.built t (parts.map fun (i, x) => (i, a.eval x)).toList with
      | some cells => buildAll P l (a.put o.dst (.agg cells))
      | none => none
    | _, _ => none
theorem wpList_buildAll {P : Program} {ops : Array Oper} {Q : Exit → Act → World → Prop} {rest : List Oper} {w : World} : ∀ (l : List Oper) (a a' : Act), buildAll P l a = some a' → wpList P ops Q rest a' w → wpList P ops Q (l ++ rest) a w
  | [], a, a', h, hr => by simp only [buildAll, Option.some.injEq] at h; subst h; exact hr
  | o :: l, a, a', h, hr => by
    rw [buildAll] at h
    split at h
    · rename_i t parts ho hg
      split at h
      · rename_i cells hc
        refine wpList_build hg t parts ho (by rw [hc]; rfl) ?_
        rw [hc]
        exact wpList_buildAll l _ a' h hr
      · cases h
    · cases h
theorem wpList_buildN {P : Program} {ops : Array Oper} {Q : Exit → Act → World → Prop} {w : World} (l : List Oper) (n : Nat) (a : Act) (hs : (buildAll P (l.take n) a).isSome = true)
    (hr : ∀ a', buildAll P (l.take n) a = some a' → wpList P ops Q (l.drop n) a' w) : wpList P ops Q l a w := by
  obtain ⟨a', ha⟩ := Option.isSome_iff_exists.1 hs
  have := wpList_buildAll (ops := ops) (l.take n) a a' ha (hr a' ha)
  rwa [List.take_append_drop] at this
theorem buildAll_map {β : Type} {P : Program} {l : List Oper} {a a' : Act} (h : buildAll P l a = some a') (f : Act → β) (v : β) (hk : (buildAll P l a).map f = some v) : f a' = v := by
  rw [h] at hk; simpa using hk
def Is.zero : Array Value := (List.replicate 48 [Value.string ⟨#[]⟩, .int .i64 0, .int .u32 0, .int .u32 0, .int .u32 0]).flatten.toArray
theorem wpList_run {P : Program} {ops : Array Oper} {Q : Exit → Act → World → Prop} {rest : List Oper} {w w' : World} {o : Oper} {a : Act} {v : Value} (hg : o.guard = none) (hr : (execOp a.eval o).run P w = .ok (.value v) w') (h : wpList P ops Q rest (a.put o.dst v) w') : wpList P ops Q (o :: rest) a w := by
  refine wpList_plain hg fun K hK => ?_
  unfold Oper.wp
  rw [hr]
  exact hK _ _ h

set_option maxRecDepth 100000 in
theorem forms_any (w : World) : Calls Tryd.prog 141 #[] w fun e w' => e = .returned (.agg Is.cells) ∧ Below w.heap.size w w' := by
  refine calls_of_wp Tryd.func141 rfl ?_
  refine wp_seq (wp_region_lit ?_)
  refine wpList_run (v := .pointer (some ⟨w.heap.size, 0, none⟩)) (w' := w.alloc (.cells Is.zero 186)) rfl (by kernel_rfl) ?_
  refine wpList_nil ?_
  refine wp_seq (wp_region_lit ?_)
  refine wpList_buildN _ 49 _ (by kernel_rfl) fun a' ha => ?_
  have e49 := buildAll_map ha (fun a => a.eval (.tmp 49)) (.agg Is.cells) (by kernel_rfl)
  have e0 := buildAll_map ha (fun a => a.eval (.tmp 0)) (.pointer (some ⟨w.heap.size, 0, none⟩)) (by kernel_rfl)
  have ed := buildAll_map ha (fun a => a.defers) [] (by kernel_rfl)
  have et := buildAll_map ha (fun a => a.tmps.getD 0 undef) (.pointer (some ⟨w.heap.size, 0, none⟩)) (by kernel_rfl)
  refine wpList_store_row rfl 186 (.tmp 0) (.tmp 49) rfl w.heap.size Is.cells e0 e49 186 Is.zero (heap_alloc_last w _) (by kernel_rfl) (by kernel_rfl) (by kernel_rfl) ?_
  refine wpList_nil (wp_ret ?_)
  rw [World.setRow_alloc_new]
  exact ⟨ed, _, results_cell_row rfl _ _ w.heap.size 186 Is.cells (0, 0) _ et (heap_alloc_last w _) Tryd.underlying186 rfl (by kernel_rfl), rfl, (Below.refl _ _).alloc (Nat.le_refl _) _⟩
end Go.Proofs.YtfafdkbnmfpbmaaDoor

/- Words: what the instructions ask of bits. -/
namespace Go.Proofs.YtfafdkbnmfpbmaaDoor
open Go.RowKit
set_option linter.unusedVariables false
set_option linter.unusedSimpArgs false

theorem ret_bool {a b : Bool} (h : a = b) : Ending.returned (.bool a) = .returned (.bool b) := by rw [h]
theorem ret_int {k : IntKind} {a b : Int} (h : a = b) : Ending.returned (.int k a) = .returned (.int k b) := by rw [h]
theorem Below.one {w : World} : Below w.heap.size w ({ w with drawn := w.drawn + 1 } : World) := ⟨rfl, rfl, rfl, Nat.le_refl _, fun _ _ => rfl⟩
/-- A word's number. -/
def Bt.sgn (a : Nat) : Int := if a < 2147483648 then a else (a : Int) - 4294967296
theorem Bt.sgn_bd {a : Nat} (ha : a < 4294967296) : -2147483648 ≤ Bt.sgn a ∧ Bt.sgn a ≤ 2147483647 := by unfold Bt.sgn; split <;> omega
theorem Bt.wrap32_eq {a : Nat} (ha : a < 4294967296) : wrap32 (a : Int) = Bt.sgn a := by unfold wrap32 Bt.sgn; split <;> omega
theorem Bt.wrap64_32 (x : Int) : wrap64 (wrap32 x) = wrap32 x := by unfold wrap64 wrap32; omega
/-- The lowest k bits, signed. -/
def Bt.sext (a k : Nat) : Nat := if a / 2 ^ (k - 1) % 2 = 1 then a % 2 ^ k + (4294967296 - 2 ^ k) else a % 2 ^ k
theorem Bt.upto32 {p : Nat → Prop} (h : ∀ k : Fin 33, 1 ≤ k.val → p k.val) : ∀ k, 1 ≤ k → k ≤ 32 → p k := fun k h1 h2 => h ⟨k, by omega⟩ h1
theorem Bt.cases32 {k : Nat} (h1 : 1 ≤ k) (h2 : k ≤ 32) : k = 1 ∨ k = 2 ∨ k = 3 ∨ k = 4 ∨ k = 5 ∨ k = 6 ∨ k = 7 ∨ k = 8 ∨ k = 9 ∨ k = 10 ∨ k = 11 ∨ k = 12 ∨ k = 13 ∨ k = 14 ∨ k = 15 ∨ k = 16 ∨ k = 17 ∨ k = 18 ∨ k = 19 ∨ k = 20 ∨ k = 21 ∨ k = 22 ∨ k = 23 ∨ k = 24 ∨ k = 25 ∨ k = 26 ∨ k = 27 ∨ k = 28 ∨ k = 29 ∨ k = 30 ∨ k = 31 ∨ k = 32 := by omega
theorem Bt.sext_eq (a k : Nat) (ha : a < 4294967296) (h1 : 1 ≤ k) (h2 : k ≤ 32) : wrap32 ((a : Int) * 2 ^ (32 - k) % 4294967296) / 2 ^ (32 - k) % 4294967296 = (Bt.sext a k : Int) := by
  rcases Bt.cases32 h1 h2 with rfl | rfl | rfl | rfl | rfl | rfl | rfl | rfl | rfl | rfl | rfl | rfl | rfl | rfl | rfl | rfl | rfl | rfl | rfl | rfl | rfl | rfl | rfl | rfl | rfl | rfl | rfl | rfl | rfl | rfl | rfl | rfl <;>
    (unfold Bt.sext wrap32; simp only [Nat.reduceSub, Nat.reducePow, Int.reducePow, Nat.sub_self, Nat.pow_zero, Int.pow_zero]; split <;> omega)
theorem Bt.sext_lt (a k : Nat) (ha : a < 4294967296) (h1 : 1 ≤ k) (h2 : k ≤ 32) : Bt.sext a k < 4294967296 := by
  have h := Bt.sext_eq a k ha h1 h2
  omega
theorem Bt.sext_low (a k : Nat) (ha : a < 4294967296) (h1 : 1 ≤ k) (h2 : k ≤ 32) : Bt.sext a k % 2 ^ k = a % 2 ^ k := by
  rcases Bt.cases32 h1 h2 with rfl | rfl | rfl | rfl | rfl | rfl | rfl | rfl | rfl | rfl | rfl | rfl | rfl | rfl | rfl | rfl | rfl | rfl | rfl | rfl | rfl | rfl | rfl | rfl | rfl | rfl | rfl | rfl | rfl | rfl | rfl | rfl <;>
    (unfold Bt.sext; simp only [Nat.reduceSub, Nat.reducePow]; split <;> omega)
theorem Bt.field_eq (x k : Nat) (hx : x < 4294967296) (h2 : k ≤ 32) : bits .and .u32 (x : Int) ((2 ^ k - 1) % 4294967296) = ((x % 2 ^ k : Nat) : Int) := by
  have hp : 2 ^ k ≤ 2 ^ 32 := Nat.pow_le_pow_right (by omega) h2
  have hp0 : 0 < 2 ^ k := Nat.two_pow_pos k
  have e : ((2 : Int) ^ k - 1) % 4294967296 = ((2 ^ k - 1 : Nat) : Int) := by
    rw [Int.natCast_sub (by omega)]
    simp only [Int.natCast_pow, Int.cast_ofNat_Int]
    have : (2 : Int) ^ k = ((2 ^ k : Nat) : Int) := by simp
    omega
  rw [e]
  have h : (BitVec.ofInt 32 (x : Int)).toNat = x := by rw [BitVec.ofInt_natCast, BitVec.toNat_ofNat]; exact Nat.mod_eq_of_lt (by omega)
  have h' : (BitVec.ofInt 32 ((2 ^ k - 1 : Nat) : Int)).toNat = 2 ^ k - 1 := by rw [BitVec.ofInt_natCast, BitVec.toNat_ofNat]; exact Nat.mod_eq_of_lt (by omega)
  show IntKind.u32.wrap ((BitVec.ofInt 32 (x : Int) &&& BitVec.ofInt 32 ((2 ^ k - 1 : Nat) : Int)).toNat : Int) = _
  rw [BitVec.toNat_and, h, h', Nat.and_two_pow_sub_one_eq_mod, IntKind.wrap_u32]
  have := Nat.mod_le x (2 ^ k)
  omega
theorem field_nat (a : Nat) (k n : Int) (w : World) (ha : a < 4294967296) (h0 : 0 ≤ k) (h1 : 1 ≤ n) (h2 : k ≤ 32) (h3 : n ≤ 32 - k) : Calls Tryd.prog 156 #[.int .u32 a, .int .i64 k, .int .i64 n] w fun e w' =>
    e = .returned (.int .u32 ((a / 2 ^ k.toNat % 2 ^ n.toNat : Nat) : Int)) ∧ w = w' := by
  go_enter Tryd.func156, Tryd.ntmps156
  go_wp2
  go_ret
  refine ⟨ret_int ?_, rfl⟩
  have := Bt.field_eq (a / 2 ^ k.toNat) n.toNat (Nat.lt_of_le_of_lt (Nat.div_le_self _ _) ha) (by omega)
  rw [← this]
  simp
def Bt.fieldV (a : Nat) (k n : Int) : Int := if 0 ≤ k ∧ 1 ≤ n ∧ k ≤ 32 ∧ n ≤ 32 - k then ((a / 2 ^ k.toNat % 2 ^ n.toNat : Nat) : Int) else 0
theorem field_v (a : Nat) (k n : Int) (w : World) (ha : a < 4294967296) : Calls Tryd.prog 156 #[.int .u32 a, .int .i64 k, .int .i64 n] w fun e w' => e = .returned (.int .u32 (Bt.fieldV a k n)) ∧ w = w' := by
  unfold Bt.fieldV
  split
  · rename_i h; exact field_nat a k n w ha h.1 h.2.1 h.2.2.1 h.2.2.2
  · rename_i h
    by_cases c1 : k < 0
    · clear h
      go_enter Tryd.func156, Tryd.ntmps156
      go_wp2
      go_ret
      exact ⟨rfl, rfl⟩
    by_cases c2 : n < 1
    · clear h
      go_enter Tryd.func156, Tryd.ntmps156
      go_wp2
      go_ret
      exact ⟨rfl, rfl⟩
    by_cases c3 : 32 < k
    · clear h
      go_enter Tryd.func156, Tryd.ntmps156
      go_wp2
      go_ret
      exact ⟨rfl, rfl⟩
    have c4 : 32 - k < n := by omega
    clear h
    go_enter Tryd.func156, Tryd.ntmps156
    go_wp2
    go_ret
    exact ⟨rfl, rfl⟩
theorem still_of {P : Program} {f : FuncId} {args : Array Value} {w : World} {v : Value} (h : Calls P f args w fun e w' => e = .returned v ∧ w = w') : Calls P f args w fun e w' => e = .returned v ∧ w' = w :=
  h.mono fun _ _ ⟨he, hw⟩ => ⟨he, hw.symm⟩
end Go.Proofs.YtfafdkbnmfpbmaaDoor

/- Walks of the small functions of isa and of the document's. -/
namespace Go.Proofs.YtfafdkbnmfpbmaaDoor
open Go.RowKit
set_option linter.unusedVariables false
set_option linter.unusedSimpArgs false
theorem index_form (i : Nat) (hi : i < 48) (w : World) : (Instr.index 186 (.agg Is.cells) (.int .i64 (i : Int))).run Tryd.prog w = .ok (.agg (Is.fv (Is.forms.getD i default)).toArray) w :=
  match i, hi with
  | 0, _ => by kernel_rfl
  | 1, _ => by kernel_rfl
  | 2, _ => by kernel_rfl
  | 3, _ => by kernel_rfl
  | 4, _ => by kernel_rfl
  | 5, _ => by kernel_rfl
  | 6, _ => by kernel_rfl
  | 7, _ => by kernel_rfl
  | 8, _ => by kernel_rfl
  | 9, _ => by kernel_rfl
  | 10, _ => by kernel_rfl
  | 11, _ => by kernel_rfl
  | 12, _ => by kernel_rfl
  | 13, _ => by kernel_rfl
  | 14, _ => by kernel_rfl
  | 15, _ => by kernel_rfl
  | 16, _ => by kernel_rfl
  | 17, _ => by kernel_rfl
  | 18, _ => by kernel_rfl
  | 19, _ => by kernel_rfl
  | 20, _ => by kernel_rfl
  | 21, _ => by kernel_rfl
  | 22, _ => by kernel_rfl
  | 23, _ => by kernel_rfl
  | 24, _ => by kernel_rfl
  | 25, _ => by kernel_rfl
  | 26, _ => by kernel_rfl
  | 27, _ => by kernel_rfl
  | 28, _ => by kernel_rfl
  | 29, _ => by kernel_rfl
  | 30, _ => by kernel_rfl
  | 31, _ => by kernel_rfl
  | 32, _ => by kernel_rfl
  | 33, _ => by kernel_rfl
  | 34, _ => by kernel_rfl
  | 35, _ => by kernel_rfl
  | 36, _ => by kernel_rfl
  | 37, _ => by kernel_rfl
  | 38, _ => by kernel_rfl
  | 39, _ => by kernel_rfl
  | 40, _ => by kernel_rfl
  | 41, _ => by kernel_rfl
  | 42, _ => by kernel_rfl
  | 43, _ => by kernel_rfl
  | 44, _ => by kernel_rfl
  | 45, _ => by kernel_rfl
  | 46, _ => by kernel_rfl
  | 47, _ => by kernel_rfl
  | n + 48, h => absurd h (by omega)
/-- The shape of an Op; -1: there is none. -/
def Is.shape (op : Int) : Int :=
  if op < 0 ∨ 48 ≤ op then -1 else if op ≤ 1 then 0 else if op = 2 then 1 else if 4 ≤ op ∧ op ≤ 9 then 3 else if 15 ≤ op ∧ op ≤ 17 then 4 else if 24 ≤ op ∧ op ≤ 26 then 5
  else if op = 37 then 8 else if op = 38 ∨ op = 39 then 7 else if 27 ≤ op then 6 else 2
set_option maxHeartbeats 4000000 in
theorem shape_own (op : Int) (w : World) : Calls Tryd.prog 144 #[.int .i64 op] w fun e w' => e = .returned (.int .i64 (Is.shape op)) ∧ w = w' := by
  go_enter Tryd.func144, Tryd.ntmps144
  go_wp2
  all_goals (go_ret; refine ⟨ret_int ?_, rfl⟩; unfold Is.shape; (try simp only [beq_iff_eq, beq_eq_false_iff_ne] at *); (repeat' split) <;> omega)
def Is.nameOf (op : Int) : ByteArray := if op < 0 ∨ 48 ≤ op then ⟨#[]⟩ else ⟨(Is.forms.getD op.toNat default).name.toArray⟩
theorem reg_own (n : Int) (has : Bool) (w : World) : Calls Tryd.prog 170 #[.int .i64 n, .bool has] w fun e w' => e = .returned (.bool (decide (n = 0) || (has && (decide (0 < n) && decide (n < 32))))) ∧ w = w' := by
  cases has
  · by_cases h0 : n = 0
    · subst h0
      go_enter Tryd.func170, Tryd.ntmps170
      go_wp2
      go_ret
      exact ⟨rfl, rfl⟩
    · have g0 : (n == 0) = false := by simpa using h0
      have HF := Lib.hid (show decide (n = 0) = false by simpa using h0)
      go_enter Tryd.func170, Tryd.ntmps170
      go_wp2
      go_ret
      exact ⟨ret_bool (by rw [HF.out]; rfl), rfl⟩
  · by_cases h0 : n = 0
    · subst h0
      go_enter Tryd.func170, Tryd.ntmps170
      go_wp2
      go_ret
      exact ⟨rfl, rfl⟩
    · have g0 : (n == 0) = false := by simpa using h0
      have HF := Lib.hid (show decide (n = 0) = false by simpa using h0)
      clear h0
      by_cases h1 : 0 < n
      · by_cases h2 : n < 32
        · have E := Lib.hid (show (decide (0 < n) && decide (n < 32)) = true by simp [h1, h2])
          go_enter Tryd.func170, Tryd.ntmps170
          go_wp2
          go_ret
          exact ⟨ret_bool (by first | (rw [HF.out, E.out]; rfl) | simp [HF.out, E.out]), rfl⟩
        · have E := Lib.hid (show decide (n < 32) = false by simp [h2])
          go_enter Tryd.func170, Tryd.ntmps170
          go_wp2
          go_ret
          exact ⟨ret_bool (by first | (rw [HF.out, E.out]; rfl) | simp [HF.out, E.out]), rfl⟩
      · have E := Lib.hid (show decide (0 < n) = false by simp [h1])
        go_enter Tryd.func170, Tryd.ntmps170
        go_wp2
        go_ret
        exact ⟨ret_bool (by first | (rw [HF.out, E.out]; rfl) | simp [HF.out, E.out]), rfl⟩
/-- Which fields a shape has, and what its Imm may be. -/
structure Is.Uses where
  rd : Bool
  rs1 : Bool
  rs2 : Bool
  least : Int
  most : Int
  even : Bool
abbrev Is.Uses.v (u : Is.Uses) : Value := .agg #[.bool u.rd, .bool u.rs1, .bool u.rs2, .int .i64 u.least, .int .i64 u.most, .bool u.even]
def Is.uses (s : Int) : Is.Uses :=
  if s = 0 then ⟨true, false, false, 0, 1048575, false⟩ else if s = 1 then ⟨true, false, false, -1048576, 1048574, true⟩ else if s = 2 then ⟨true, true, false, -2048, 2047, false⟩
  else if s = 3 then ⟨false, true, true, -4096, 4094, true⟩ else if s = 4 then ⟨false, true, true, -2048, 2047, false⟩ else if s = 5 then ⟨true, true, false, 0, 31, false⟩
  else if s = 6 then ⟨true, true, true, 0, 0, false⟩ else if s = 8 then ⟨false, false, false, -2048, 2047, false⟩ else ⟨false, false, false, 0, 0, false⟩
theorem uses_own (s : Int) (w : World) (h : s = -1 ∨ s = 0 ∨ s = 1 ∨ s = 2 ∨ s = 3 ∨ s = 4 ∨ s = 5 ∨ s = 6 ∨ s = 7 ∨ s = 8) : Calls Tryd.prog 169 #[.int .i64 s] w fun e w' => e = .returned (Is.uses s).v ∧ Below w.heap.size w w' := by
  rcases h with rfl | rfl | rfl | rfl | rfl | rfl | rfl | rfl | rfl | rfl
  all_goals
    go_enter Tryd.func169, Tryd.ntmps169
    go_wp2
    exact bodyPost_ret (v := (Is.uses _).v) (by simp [results, Tryd.results169, go_sem, Is.uses]) rfl ⟨rfl, (Below.refl _ _).alloc (Nat.le_refl _) _⟩
end Go.Proofs.YtfafdkbnmfpbmaaDoor

/- Walks: Legal, the program's and the document's. -/
namespace Go.Proofs.YtfafdkbnmfpbmaaDoor
open Go.RowKit
set_option linter.unusedVariables false
set_option linter.unusedSimpArgs false

/-- A record. -/
structure Is.Inst where
  op : Int
  rd : Int
  rs1 : Int
  rs2 : Int
  imm : Int
  deriving DecidableEq
abbrev Is.Inst.v (i : Is.Inst) : Value := .agg #[.int .i64 i.op, .int .i64 i.rd, .int .i64 i.rs1, .int .i64 i.rs2, .int .i64 i.imm]
abbrev Is.in64 (n : Int) : Prop := -9223372036854775808 ≤ n ∧ n ≤ 9223372036854775807
structure Is.Inst.ok (i : Is.Inst) : Prop where
  op : Is.in64 i.op
  rd : Is.in64 i.rd
  rs1 : Is.in64 i.rs1
  rs2 : Is.in64 i.rs2
  imm : Is.in64 i.imm

def Is.regB (n : Int) (has : Bool) : Bool := decide (n = 0) || (has && (decide (0 < n) && decide (n < 32)))
def Is.legal (i : Is.Inst) : Bool :=
  decide (0 ≤ Is.shape i.op) && (Is.regB i.rd (Is.uses (Is.shape i.op)).rd && (Is.regB i.rs1 (Is.uses (Is.shape i.op)).rs1 && (Is.regB i.rs2 (Is.uses (Is.shape i.op)).rs2 &&
    (decide ((Is.uses (Is.shape i.op)).least ≤ i.imm) && (decide (i.imm ≤ (Is.uses (Is.shape i.op)).most) && (!(Is.uses (Is.shape i.op)).even || decide (i.imm % 2 = 0)))))))
theorem Is.shape_cases (op : Int) : Is.shape op = -1 ∨ Is.shape op = 0 ∨ Is.shape op = 1 ∨ Is.shape op = 2 ∨ Is.shape op = 3 ∨ Is.shape op = 4 ∨ Is.shape op = 5 ∨ Is.shape op = 6 ∨ Is.shape op = 7 ∨ Is.shape op = 8 := by
  unfold Is.shape; (repeat' split) <;> simp
theorem Is.and_one (n : Int) (h : Is.in64 n) : bits .and .i64 n 1 = n % 2 := by
  show IntKind.i64.wrap ((BitVec.ofInt 64 n &&& BitVec.ofInt 64 1).toNat : Int) = _
  have h1 : (BitVec.ofInt 64 1).toNat = 1 := by decide
  have h2 : (BitVec.ofInt 64 n).toNat = (n % 18446744073709551616).toNat := by rw [BitVec.toNat_ofInt]; rfl
  rw [BitVec.toNat_and, h1, h2, Nat.and_one_is_mod, IntKind.wrap_i64]
  omega

set_option maxHeartbeats 4000000 in
theorem legal_own (i : Is.Inst) (w : World) (ok : i.ok) : Calls Tryd.prog 154 #[i.v] w fun e w' => e = .returned (.bool (Is.legal i)) ∧ Below w.heap.size w w' := by
  have hs := Is.shape_cases i.op
  have c0 := Lib.hid (fun w => shape_own i.op w)
  have hand := Is.and_one i.imm ok.imm
  obtain ⟨op, rd, rs1, rs2, imm⟩ := i
  have HL := Lib.hid (show Is.legal ⟨op, rd, rs1, rs2, imm⟩ = (decide (0 ≤ Is.shape op) && (Is.regB rd (Is.uses (Is.shape op)).rd && (Is.regB rs1 (Is.uses (Is.shape op)).rs1 && (Is.regB rs2 (Is.uses (Is.shape op)).rs2 &&
    (decide ((Is.uses (Is.shape op)).least ≤ imm) && (decide (imm ≤ (Is.uses (Is.shape op)).most) && (!(Is.uses (Is.shape op)).even || decide (imm % 2 = 0)))))))) from rfl)
  simp only at hs c0 hand
  generalize Is.shape op = s at *
  have c1 := Lib.hid (fun w => uses_own s w hs)
  generalize Is.uses s = u at *
  obtain ⟨u1, u2, u3, least, most, even⟩ := u
  have r1 := Lib.hid (fun w => reg_own rd u1 w)
  have r2 := Lib.hid (fun w => reg_own rs1 u2 w)
  have r3 := Lib.hid (fun w => reg_own rs2 u3 w)
  simp only [Is.Uses.v] at c1
  simp only [Is.regB] at HL
  generalize (decide (rd = 0) || (u1 && (decide (0 < rd) && decide (rd < 32)))) = b1 at *
  generalize (decide (rs1 = 0) || (u2 && (decide (0 < rs1) && decide (rs1 < 32)))) = b2 at *
  generalize (decide (rs2 = 0) || (u3 && (decide (0 < rs2) && decide (rs2 < 32)))) = b3 at *
  clear ok
  have HE := Lib.hid (show (imm % 2 == 0) = decide (imm % 2 = 0) from rfl)
  generalize imm % 2 = m2 at *
  clear hs
  go_enter Tryd.func154, Tryd.ntmps154
  go_wp2_with fail
  refine (c0.out _).mono ?_
  rintro e w' ⟨rfl, rfl⟩
  go_wp2_with fail
  refine (c1.out _).mono ?_
  rintro e w1 ⟨rfl, hb⟩
  simp only [World.size_alloc] at hb
  have q0 : w1.cell? ⟨w.heap.size, 0, none⟩ = some (.int .i64 op) := (hb.cell (p := ⟨w.heap.size, 0, none⟩) (by simp)).trans (by go_simp)
  have q1 : w1.cell? ⟨w.heap.size, 1, none⟩ = some (.int .i64 rd) := (hb.cell (p := ⟨w.heap.size, 1, none⟩) (by simp)).trans (by go_simp)
  have q2 : w1.cell? ⟨w.heap.size, 2, none⟩ = some (.int .i64 rs1) := (hb.cell (p := ⟨w.heap.size, 2, none⟩) (by simp)).trans (by go_simp)
  have q3 : w1.cell? ⟨w.heap.size, 3, none⟩ = some (.int .i64 rs2) := (hb.cell (p := ⟨w.heap.size, 3, none⟩) (by simp)).trans (by go_simp)
  have q4 : w1.cell? ⟨w.heap.size, 4, none⟩ = some (.int .i64 imm) := (hb.cell (p := ⟨w.heap.size, 4, none⟩) (by simp)).trans (by go_simp)
  have hz : w.heap.size < w1.heap.size := by have := hb.size; simp at this; omega
  have HB := Lib.hid (show Below w.heap.size w w1 from ((Below.refl _ _).alloc (Nat.le_refl _) _).trans (hb.mono (by omega)))
  clear hb
  by_cases hs : 0 ≤ s
  · cases b1
    · have HR := Lib.hid (show Is.legal ⟨op, rd, rs1, rs2, imm⟩ = false by rw [HL.out]; simp)
      clear HL HE
      go_wp2_with (go_at_call 170; first | ((with_reducible refine (r1.out _).mono ?_); rintro e w' ⟨rfl, rfl⟩) | ((with_reducible refine (r2.out _).mono ?_); rintro e w' ⟨rfl, rfl⟩) | ((with_reducible refine (r3.out _).mono ?_); rintro e w' ⟨rfl, rfl⟩))
      go_ret
      exact ⟨ret_bool HR.out.symm, (HB.out.alloc HB.out.size _)⟩
    · cases b2
      · have HR := Lib.hid (show Is.legal ⟨op, rd, rs1, rs2, imm⟩ = false by rw [HL.out]; simp)
        clear HL HE
        go_wp2_with (go_at_call 170; first | ((with_reducible refine (r1.out _).mono ?_); rintro e w' ⟨rfl, rfl⟩) | ((with_reducible refine (r2.out _).mono ?_); rintro e w' ⟨rfl, rfl⟩) | ((with_reducible refine (r3.out _).mono ?_); rintro e w' ⟨rfl, rfl⟩))
        go_ret
        exact ⟨ret_bool HR.out.symm, (HB.out.alloc HB.out.size _)⟩
      · cases b3
        · have HR := Lib.hid (show Is.legal ⟨op, rd, rs1, rs2, imm⟩ = false by rw [HL.out]; simp)
          clear HL HE
          go_wp2_with (go_at_call 170; first | ((with_reducible refine (r1.out _).mono ?_); rintro e w' ⟨rfl, rfl⟩) | ((with_reducible refine (r2.out _).mono ?_); rintro e w' ⟨rfl, rfl⟩) | ((with_reducible refine (r3.out _).mono ?_); rintro e w' ⟨rfl, rfl⟩))
          go_ret
          exact ⟨ret_bool HR.out.symm, (HB.out.alloc HB.out.size _)⟩
        · by_cases h1 : least ≤ imm
          · by_cases h2 : imm ≤ most
            · cases even
              · have HR := Lib.hid (show Is.legal ⟨op, rd, rs1, rs2, imm⟩ = true by rw [HL.out]; simp [hs, h1, h2])
                clear HL HE
                go_wp2_with (go_at_call 170; first | ((with_reducible refine (r1.out _).mono ?_); rintro e w' ⟨rfl, rfl⟩) | ((with_reducible refine (r2.out _).mono ?_); rintro e w' ⟨rfl, rfl⟩) | ((with_reducible refine (r3.out _).mono ?_); rintro e w' ⟨rfl, rfl⟩))
                go_ret
                exact ⟨ret_bool HR.out.symm, (HB.out.alloc HB.out.size _)⟩
              · by_cases h3 : m2 = 0
                · have g3 : (m2 == 0) = true := by simp [h3]
                  have HR := Lib.hid (show Is.legal ⟨op, rd, rs1, rs2, imm⟩ = true by rw [HL.out]; simp [hs, h1, h2, h3])
                  clear HL HE
                  go_wp2_with (go_at_call 170; first | ((with_reducible refine (r1.out _).mono ?_); rintro e w' ⟨rfl, rfl⟩) | ((with_reducible refine (r2.out _).mono ?_); rintro e w' ⟨rfl, rfl⟩) | ((with_reducible refine (r3.out _).mono ?_); rintro e w' ⟨rfl, rfl⟩))
                  go_ret
                  exact ⟨ret_bool HR.out.symm, (HB.out.alloc HB.out.size _)⟩
                · have g3 : (m2 == 0) = false := by simp [h3]
                  have HR := Lib.hid (show Is.legal ⟨op, rd, rs1, rs2, imm⟩ = false by rw [HL.out]; simp [hs, h1, h2, h3])
                  clear HL HE
                  go_wp2_with (go_at_call 170; first | ((with_reducible refine (r1.out _).mono ?_); rintro e w' ⟨rfl, rfl⟩) | ((with_reducible refine (r2.out _).mono ?_); rintro e w' ⟨rfl, rfl⟩) | ((with_reducible refine (r3.out _).mono ?_); rintro e w' ⟨rfl, rfl⟩))
                  go_ret
                  exact ⟨ret_bool HR.out.symm, (HB.out.alloc HB.out.size _)⟩
            · have HR := Lib.hid (show Is.legal ⟨op, rd, rs1, rs2, imm⟩ = false by rw [HL.out]; simp [h2])
              clear HL HE
              go_wp2_with (go_at_call 170; first | ((with_reducible refine (r1.out _).mono ?_); rintro e w' ⟨rfl, rfl⟩) | ((with_reducible refine (r2.out _).mono ?_); rintro e w' ⟨rfl, rfl⟩) | ((with_reducible refine (r3.out _).mono ?_); rintro e w' ⟨rfl, rfl⟩))
              go_ret
              exact ⟨ret_bool HR.out.symm, (HB.out.alloc HB.out.size _)⟩
          · have HR := Lib.hid (show Is.legal ⟨op, rd, rs1, rs2, imm⟩ = false by rw [HL.out]; simp [h1])
            clear HL HE
            go_wp2_with (go_at_call 170; first | ((with_reducible refine (r1.out _).mono ?_); rintro e w' ⟨rfl, rfl⟩) | ((with_reducible refine (r2.out _).mono ?_); rintro e w' ⟨rfl, rfl⟩) | ((with_reducible refine (r3.out _).mono ?_); rintro e w' ⟨rfl, rfl⟩))
            go_ret
            exact ⟨ret_bool HR.out.symm, (HB.out.alloc HB.out.size _)⟩
  · have HR := Lib.hid (show Is.legal ⟨op, rd, rs1, rs2, imm⟩ = false by rw [HL.out]; simp [hs])
    clear HL HE
    go_wp2_with (go_at_call 170; first | ((with_reducible refine (r1.out _).mono ?_); rintro e w' ⟨rfl, rfl⟩) | ((with_reducible refine (r2.out _).mono ?_); rintro e w' ⟨rfl, rfl⟩) | ((with_reducible refine (r3.out _).mono ?_); rintro e w' ⟨rfl, rfl⟩))
    go_ret
    exact ⟨ret_bool HR.out.symm, (HB.out.alloc HB.out.size _)⟩
end Go.Proofs.YtfafdkbnmfpbmaaDoor

/- The walk of isa.Encode. -/
namespace Go.Proofs.YtfafdkbnmfpbmaaDoor
open Go.RowKit
set_option linter.unusedVariables false
set_option linter.unusedSimpArgs false

/-- A shape's pieces: from, n, at. -/
def Is.pieces (s : Int) : List (Int × Int × Int) :=
  if s = 0 then [(0, 20, 12)] else if s = 1 then [(12, 8, 12), (11, 1, 20), (1, 10, 21), (20, 1, 31)] else if s = 3 then [(11, 1, 7), (1, 4, 8), (5, 6, 25), (12, 1, 31)]
  else if s = 4 then [(0, 5, 7), (5, 7, 25)] else if s = 5 then [(0, 5, 20)] else if s = 2 ∨ s = 8 then [(0, 12, 20)] else []
/-- v is a slice of these pieces. -/
def PieceV (w : World) (v : Value) (ps : List (Int × Int × Int)) : Prop :=
  (v = .slice none 0 0 ∧ ps = []) ∨ ∃ g, v = .slice (some ⟨g, 0, none⟩) ps.length ps.length ∧ g < w.heap.size ∧ ∀ j, j < ps.length →
    w.cell? ⟨g, j * 3, none⟩ = some (.int .i64 (ps.getD j (0, 0, 0)).1) ∧ w.cell? ⟨g, j * 3 + 1, none⟩ = some (.int .i64 (ps.getD j (0, 0, 0)).2.1) ∧ w.cell? ⟨g, j * 3 + 2, none⟩ = some (.int .i64 (ps.getD j (0, 0, 0)).2.2)
set_option maxHeartbeats 4000000 in
theorem pieces_own (s : Int) (w : World) (h : s = 0 ∨ s = 1 ∨ s = 2 ∨ s = 3 ∨ s = 4 ∨ s = 5 ∨ s = 6 ∨ s = 7 ∨ s = 8) : Calls Tryd.prog 155 #[.int .i64 s] w fun e w' => ∃ v, e = .returned v ∧ PieceV w' v (Is.pieces s) ∧ Below w.heap.size w w' := by
  rcases h with rfl | rfl | rfl | rfl | rfl | rfl | rfl | rfl | rfl
  all_goals
    go_enter Tryd.func155, Tryd.ntmps155
    go_wp2
    go_ret
    first
      | exact ⟨_, rfl, .inl ⟨rfl, by decide⟩, Below.refl _ _⟩
      | (refine ⟨_, rfl, .inr ⟨w.heap.size, rfl, by simp, ?_⟩, (Below.refl _ _).alloc (Nat.le_refl _) _⟩
         intro j hj
         have hj' : j = 0 ∨ j = 1 ∨ j = 2 ∨ j = 3 := by simp [Is.pieces] at hj; omega
         rcases hj' with rfl | rfl | rfl | rfl <;> first | (exfalso; revert hj; decide) | (refine ⟨?_, ?_, ?_⟩ <;> go_simp <;> simp [Is.pieces]))
end Go.Proofs.YtfafdkbnmfpbmaaDoor

/- The walk of isa.Encode. -/
namespace Go.Proofs.YtfafdkbnmfpbmaaDoor
open Go.RowKit
set_option linter.unusedVariables false
set_option linter.unusedSimpArgs false

/-- A form's row as a value. -/
abbrev Is.fvv (f : Is.Form) : Value := .agg #[.string ⟨f.name.toArray⟩, .int .i64 f.shape, .int .u32 f.code, .int .u32 f.three, .int .u32 f.seven]

theorem enc_bad (i : Is.Inst) (w : World) (ok : i.ok) (h : Is.legal i = false) : Calls Tryd.prog 122 #[i.v] w fun e w' => e = .returned (.tuple #[.int .u32 0, .int .i64 20]) ∧ Below w.heap.size w w' := by
  have c0 := Lib.hid (fun w => legal_own i w ok)
  rw [h] at c0
  obtain ⟨op, rd, rs1, rs2, imm⟩ := i
  clear ok h
  go_enter Tryd.func122, Tryd.ntmps122
  go_wp2_with fail
  refine (c0.out _).mono ?_
  rintro e w1 ⟨rfl, hb⟩
  go_wp2
  go_ret2
  exact ⟨rfl, ((Below.refl _ _).alloc (Nat.le_refl _) _).trans (hb.mono (by simp))⟩

def Is.base (f : Is.Form) (rd rs1 rs2 : Int) : Int :=
  bits .or .u32 (bits .or .u32 (bits .or .u32 (bits .or .u32 (bits .or .u32 (f.code : Int) (rd % 4294967296 * 128 % 4294967296)) ((f.three : Int) * 4096)) (rs1 % 4294967296 * 32768 % 4294967296)) (rs2 % 4294967296 * 1048576 % 4294967296)) ((f.seven : Int) * 33554432)
theorem still_of' {P : Program} {f : FuncId} {args : Array Value} {w : World} {v : Value} (h : Calls P f args w fun e w' => e = .returned v ∧ w = w') : Calls P f args w fun e w' => e = .returned v ∧ w' = w :=
  h.mono fun _ _ ⟨he, hw⟩ => ⟨he, hw.symm⟩
theorem ret2i {a a' b : Int} (h : a = a') : Ending.returned (.tuple #[.int .u32 a, .int .i64 b]) = .returned (.tuple #[.int .u32 a', .int .i64 b]) := by rw [h]
/-- The pieces of an Imm, or-ed one after the other. -/
def Is.acc (A : Nat) (x : Int) (ps : List (Int × Int × Int)) : Int := ps.foldl (fun x p => bits .or .u32 x (Bt.fieldV A p.1 p.2.1 * 2 ^ p.2.2.toNat % 4294967296)) x

/-- A store of a whole row inside a region whose order is drawn. -/
theorem step_store_row {P : Program} {w : World} {ops : Array Oper} {o : Oper} {a : Act} {K : Act → World → Prop} {Q : Exit → Act → World → Prop} {E : Prop} (hgd : o.guard = none) (ty : TypeId) (x y : Operand) (ho : o.op = .store ty x y)
    (g : Nat) (cells : Array Value) (hx : a.eval x = .pointer (some ⟨g, 0, none⟩)) (hy : a.eval y = .agg cells) (t : TypeId) (old : Array Value) (hg : w.heap[g]? = some (.cells old t (0, 0))) (hi : (P.info? ty).map (·.size) = some cells.size)
    (hold : old.size = cells.size) (h1 : cells.all (·.oneCell') = true) (h : K (a.put o.dst undef) (w.setRow g cells)) :
    if Region.wanted o (yielded ops a.tmps) = true then Oper.wp P o a w K Q else E := by
  have hw : Region.wanted o (yielded ops a.tmps) = true := by simp [Region.wanted, hgd]
  rw [if_pos hw]
  exact wp_store_row ty x y ho g cells hx hy t old hg hi hold h1 h
theorem Below.setRow {B : Nat} {w w' : World} (h : Below B w w') (g : Nat) (cs : Array Value) (hg : B ≤ g) : Below B w (w'.setRow g cs) :=
  h.trans ⟨rfl, rfl, rfl, by simp, fun k hk => setRow_other w' g k cs (by omega)⟩

def Is.encV (op : Nat) (x : Int) : Int := if op = 38 then 115 else if op = 39 then 1048691 else x
def FormAt (w0 : World) (B : Nat) (f : Is.Form) (s : Value) (wx : World) : Prop :=
  ∃ g, s = .pointer (some ⟨g, 0, none⟩) ∧ B ≤ g ∧ g < wx.heap.size ∧ (wx.cell? ⟨g, 0, none⟩ = some (.string ⟨f.name.toArray⟩) ∧ wx.cell? ⟨g, 1, none⟩ = some (.int .i64 f.shape) ∧ wx.cell? ⟨g, 2, none⟩ = some (.int .u32 f.code) ∧ wx.cell? ⟨g, 3, none⟩ = some (.int .u32 f.three) ∧ wx.cell? ⟨g, 4, none⟩ = some (.int .u32 f.seven)) ∧ Below B w0 wx

theorem Is.acc_snoc (A : Nat) (x : Int) (ps : List (Int × Int × Int)) (k : Nat) (h : k < ps.length) : Is.acc A x (ps.take (k + 1)) = bits .or .u32 (Is.acc A x (ps.take k)) (Bt.fieldV A (ps.getD k (0, 0, 0)).1 (ps.getD k (0, 0, 0)).2.1 * 2 ^ (ps.getD k (0, 0, 0)).2.2.toNat % 4294967296) := by
  rw [List.take_succ_eq_append_getElem h, Is.acc, List.foldl_append]
  simp [Is.acc, List.getD, List.getElem?_eq_getElem h]
set_option maxRecDepth 100000 in
set_option maxHeartbeats 8000000 in
theorem enc_core (op : Nat) (rd rs1 rs2 imm : Int) (w : World) (ok : (⟨op, rd, rs1, rs2, imm⟩ : Is.Inst).ok) (h : Is.legal ⟨op, rd, rs1, rs2, imm⟩ = true) (hop : op < 48)
    (f : Is.Form) (hf : Is.forms.getD op default = f) (hf1 : f.shape ≤ 8) (hf2 : f.code < 128) (hf3 : f.three < 8) (hf4 : f.seven < 128) (A : Nat) (hA : imm % 4294967296 = (A : Int)) :
    Calls Tryd.prog 122 #[(⟨op, rd, rs1, rs2, imm⟩ : Is.Inst).v] w fun e w' => e = .returned (.tuple #[.int .u32 (Is.encV op (Is.acc A (Is.base f rd rs1 rs2) (Is.pieces f.shape))), .int .i64 0]) ∧ Below w.heap.size w w' := by
  have c0 := Lib.hid (fun w => legal_own ⟨op, rd, rs1, rs2, imm⟩ w ok)
  rw [h] at c0
  have HA := Lib.hid hA
  clear ok h hA
  obtain ⟨C, hF, hx⟩ : ∃ (C : Array Value), Hid (∀ w, Calls Tryd.prog 141 #[] w fun e w' => e = .returned (.agg C) ∧ Below w.heap.size w w') ∧ (∀ w, (Instr.index 186 (.agg C) (.int .i64 (op : Int))).run Tryd.prog w = .ok (Is.fvv f) w) :=
    ⟨Is.cells, Lib.hid fun w => forms_any w, fun w => by rw [index_form op hop w, hf]; rfl⟩
  have cP := Lib.hid (fun w => pieces_own (f.shape : Int) w (by omega))
  have hn0 : (0 : Int) ≤ op := by omega
  have hn1 : (op : Int) < 48 := by omega
  clear hf hop
  have HQ := Lib.hid (show (∀ p ∈ Is.pieces f.shape, 0 ≤ p.2.2 ∧ p.2.2 ≤ 31) ∧ (Is.pieces f.shape).length ≤ 4 by
    have : f.shape = 0 ∨ f.shape = 1 ∨ f.shape = 2 ∨ f.shape = 3 ∨ f.shape = 4 ∨ f.shape = 5 ∨ f.shape = 6 ∨ f.shape = 7 ∨ f.shape = 8 := by omega
    rcases this with h | h | h | h | h | h | h | h | h <;> rw [h] <;> decide)
  generalize Is.pieces f.shape = ps at *
  obtain ⟨fn, fs, fc, f3, f7⟩ := f
  simp only at *
  have H0 := Lib.hid (show ∀ W', Below (w.heap.size + 1) (w.alloc (.cells #[.int .i64 op, .int .i64 rd, .int .i64 rs1, .int .i64 rs2, .int .i64 imm] 139)) W' →
      W'.cell? ⟨w.heap.size, 0, none⟩ = some (.int .i64 op) ∧ W'.cell? ⟨w.heap.size, 1, none⟩ = some (.int .i64 rd) ∧ W'.cell? ⟨w.heap.size, 2, none⟩ = some (.int .i64 rs1) ∧ W'.cell? ⟨w.heap.size, 3, none⟩ = some (.int .i64 rs2) ∧ W'.cell? ⟨w.heap.size, 4, none⟩ = some (.int .i64 imm) from fun W' hb =>
    ⟨(hb.cell (p := ⟨w.heap.size, 0, none⟩) (by simp)).trans (by go_simp), (hb.cell (p := ⟨w.heap.size, 1, none⟩) (by simp)).trans (by go_simp), (hb.cell (p := ⟨w.heap.size, 2, none⟩) (by simp)).trans (by go_simp), (hb.cell (p := ⟨w.heap.size, 3, none⟩) (by simp)).trans (by go_simp), (hb.cell (p := ⟨w.heap.size, 4, none⟩) (by simp)).trans (by go_simp)⟩)
  go_enter Tryd.func122, Tryd.ntmps122
  go_wp2_with fail
  refine (c0.out _).mono ?_
  rintro e w1 ⟨rfl, hb⟩
  simp only [World.size_alloc] at hb
  have H1 := Lib.hid hb
  have z1 := hb.size
  simp only [World.size_alloc] at z1
  clear hb
  go_upto_region 3 with fail
  go_cut [4] (fun s wx => FormAt (w.alloc (.cells #[.int .i64 op, .int .i64 rd, .int .i64 rs1, .int .i64 rs2, .int .i64 imm] 139)) (w.heap.size + 1) ⟨fn, fs, fc, f3, f7⟩ s wx)
  case first =>
    have hinfo : (Tryd.prog.info? 185).map (·.size) = some 5 := by kernel_rfl
    go_region_held3 (fun W' => W'.cell? ⟨w.heap.size, 0, none⟩ = some (.int .i64 op))
      (first | with_reducible exact hc2 | with_reducible exact ((World.cell?_setCell_far _ ⟨w1.heap.size, 4, none⟩ ⟨w.heap.size, 0, none⟩ _ hne).trans ((World.cell?_setCell_far _ ⟨w1.heap.size, 3, none⟩ ⟨w.heap.size, 0, none⟩ _ hne).trans ((World.cell?_setCell_far _ ⟨w1.heap.size, 2, none⟩ ⟨w.heap.size, 0, none⟩ _ hne).trans ((World.cell?_setCell_far _ ⟨w1.heap.size, 1, none⟩ ⟨w.heap.size, 0, none⟩ _ hne).trans ((World.cell?_setCell_far _ ⟨w1.heap.size, 0, none⟩ ⟨w.heap.size, 0, none⟩ _ hne).trans hc2))))) | with_reducible exact (World.cell?_alloc_past _ _ _ z2).trans hc2 | with_reducible exact (H0.out _ H1.out.drew).1 | with_reducible exact (H0.out _ (H1.out.alloc z1 _).drew).1)
      (first
        | (go_at_call 141; refine (hF.out _).mono ?_; rintro e w2 ⟨rfl, hb2'⟩; first | (have hb2 : Below (w.heap.size + 1) (w.alloc (.cells #[.int .i64 op, .int .i64 rd, .int .i64 rs1, .int .i64 rs2, .int .i64 imm] 139)) w2 := H1.out.drew.trans (Below.mono hb2' z1); have hc2 := (H0.out _ hb2).1; have z2 : w.heap.size + 1 ≤ w2.heap.size := (by have := hb2.size; simpa using this)) | (have hb2 : Below (w.heap.size + 1) (w.alloc (.cells #[.int .i64 op, .int .i64 rd, .int .i64 rs1, .int .i64 rs2, .int .i64 imm] 139)) w2 := (H1.out.alloc z1 _).drew.trans (hb2'.mono (by simp; omega)); have hc2 := (H0.out _ hb2).1; have z2 : w.heap.size + 1 ≤ w2.heap.size := (by have := hb2.size; simpa using this); have hne : w1.heap.size ≠ w.heap.size := (by omega); have z3 : w1.heap.size < w2.heap.size := (by have := hb2'.size; simp at this; omega); have y0 : w2.cell? ⟨w1.heap.size, 0, none⟩ = some (.string ⟨#[]⟩) := (hb2'.cell (p := ⟨w1.heap.size, 0, none⟩) (by simp)).trans (by go_simp); have x0 : w2.frozen? ⟨w1.heap.size, 0, none⟩ = false := (hb2'.frozen (p := ⟨w1.heap.size, 0, none⟩) (by simp)).trans (by go_simp); have y1 : w2.cell? ⟨w1.heap.size, 1, none⟩ = some (.int .i64 0) := (hb2'.cell (p := ⟨w1.heap.size, 1, none⟩) (by simp)).trans (by go_simp); have x1 : w2.frozen? ⟨w1.heap.size, 1, none⟩ = false := (hb2'.frozen (p := ⟨w1.heap.size, 1, none⟩) (by simp)).trans (by go_simp); have y2 : w2.cell? ⟨w1.heap.size, 2, none⟩ = some (.int .u32 0) := (hb2'.cell (p := ⟨w1.heap.size, 2, none⟩) (by simp)).trans (by go_simp); have x2 : w2.frozen? ⟨w1.heap.size, 2, none⟩ = false := (hb2'.frozen (p := ⟨w1.heap.size, 2, none⟩) (by simp)).trans (by go_simp); have y3 : w2.cell? ⟨w1.heap.size, 3, none⟩ = some (.int .u32 0) := (hb2'.cell (p := ⟨w1.heap.size, 3, none⟩) (by simp)).trans (by go_simp); have x3 : w2.frozen? ⟨w1.heap.size, 3, none⟩ = false := (hb2'.frozen (p := ⟨w1.heap.size, 3, none⟩) (by simp)).trans (by go_simp); have y4 : w2.cell? ⟨w1.heap.size, 4, none⟩ = some (.int .u32 0) := (hb2'.cell (p := ⟨w1.heap.size, 4, none⟩) (by simp)).trans (by go_simp); have x4 : w2.frozen? ⟨w1.heap.size, 4, none⟩ = false := (hb2'.frozen (p := ⟨w1.heap.size, 4, none⟩) (by simp)).trans (by go_simp))))
    all_goals
      go_wp2_with fail
      go_meet
      first
        | exact ⟨w2.heap.size, rfl, z2, by simp, ⟨by go_simp, by go_simp, by go_simp, by go_simp, by go_simp⟩, hb2.alloc z2 _⟩
        | exact ⟨w1.heap.size, rfl, z1, by simpa using z3, ⟨by go_simp, by go_simp, by go_simp, by go_simp, by go_simp⟩, ((((hb2.setCell z1 _).setCell z1 _).setCell z1 _).setCell z1 _).setCell z1 _⟩
  case rest =>
    obtain ⟨g, rfl, hg1, hg2, ⟨f0, f1, f2, f3', f4⟩, hB⟩ := hcut
    obtain ⟨q0, q1, q2, q3, q4⟩ := H0.out _ hB
    have HB := Lib.hid hB
    have zc := hB.size
    simp only [World.size_alloc] at zc
    clear hB
    by_cases h38 : op = 38
    · have HV := Lib.hid (show ∀ x, Is.encV op x = 115 from fun x => by rw [Is.encV, if_pos h38])
      have g38 : ((op : Int) == 38) = true := by simp; omega
      clear h38
      go_wp2
      go_ret2
      exact ⟨ret2i (by rw [HV.out]), ((Below.refl _ _).alloc (Nat.le_refl _) _).trans (HB.out.mono (by omega))⟩
    have g38 : ((op : Int) == 38) = false := by simp; omega
    by_cases h39 : op = 39
    · have HV := Lib.hid (show ∀ x, Is.encV op x = 1048691 from fun x => by rw [Is.encV, if_neg h38, if_pos h39])
      have g39 : ((op : Int) == 39) = true := by simp; omega
      clear h38 h39
      go_wp2
      go_ret2
      exact ⟨ret2i (by rw [HV.out]), ((Below.refl _ _).alloc (Nat.le_refl _) _).trans (HB.out.mono (by omega))⟩
    have g39 : ((op : Int) == 39) = false := by simp; omega
    have HV := Lib.hid (show ∀ x, Is.encV op x = x from fun x => by rw [Is.encV, if_neg h38, if_neg h39])
    clear h38 h39
    go_wp2_with fail
    refine (cP.out _).mono ?_
    rintro e w3 ⟨v, rfl, hP, hb3⟩
    have HB3 := Lib.hid (HB.out.trans (hb3.mono zc))
    obtain ⟨q0', q1', q2', q3'', q4'⟩ := H0.out _ HB3.out
    have HI := Lib.hid (show ∀ W', Below w3.heap.size w3 W' → W'.cell? ⟨w.heap.size, 4, none⟩ = some (.int .i64 imm) from fun W' hb => (hb.cell (p := ⟨w.heap.size, 4, none⟩) (by have := HB3.out.size; simp at this; show w.heap.size < _; omega)).trans q4')
    clear hb3 q0 q1 q2 q3 q4 q0' q1' q2' q3'' q4' f0 f1 f2 f3' f4
    have hAlt : A < 4294967296 := by have := HA.out; omega
    have HX := Lib.hid (show Is.base ⟨fn, fs, fc, f3, f7⟩ rd rs1 rs2 = bits .or .u32 (bits .or .u32 (bits .or .u32 (bits .or .u32 (bits .or .u32 (fc : Int) (rd % 4294967296 * 128 % 4294967296)) ((f3 : Int) * 4096)) (rs1 % 4294967296 * 32768 % 4294967296)) (rs2 % 4294967296 * 1048576 % 4294967296)) ((f7 : Int) * 33554432) from rfl)
    generalize bits .or .u32 (bits .or .u32 (bits .or .u32 (bits .or .u32 (bits .or .u32 (fc : Int) (rd % 4294967296 * 128 % 4294967296)) ((f3 : Int) * 4096)) (rs1 % 4294967296 * 32768 % 4294967296)) (rs2 % 4294967296 * 1048576 % 4294967296)) ((f7 : Int) * 33554432) = X at *
    have HBw := Lib.hid (show Below w.heap.size w w3 from ((Below.refl _ _).alloc (Nat.le_refl _) _).trans (HB3.out.mono (by omega)))
    have hps := HQ.out.2
    rcases hP with ⟨rfl, rfl⟩ | ⟨g3, rfl, hg3, hP⟩
    · go_wp2_with fail
      go_loopw [5, 50] (fun v i wr => i = .int .i64 0 ∧ v = .int .u32 X ∧ wr = w3) (fun _ i _ => (intOf i).toNat)
      case atStart => exact ⟨rfl, rfl, rfl⟩
      case round =>
        obtain ⟨rfl, rfl, rfl⟩ := hrel
        go_wp2
        go_ret2
        exact ⟨ret2i (by rw [HV.out, HX.out]; rfl), HBw.out⟩
    · have HP := Lib.hid hP
      clear hP
      go_wp2_with fail
      go_loopw [5, 50] (fun v i wr => ∃ k : Nat, k ≤ ps.length ∧ i = .int .i64 k ∧ v = .int .u32 (Is.acc A X (ps.take k)) ∧ Below w3.heap.size w3 wr) (fun _ i _ => ps.length - (intOf i).toNat)
      case atStart => exact ⟨0, Nat.zero_le _, rfl, rfl, Below.refl _ _⟩
      case round =>
        obtain ⟨k, hk, rfl, rfl, hbr⟩ := hrel
        by_cases hlt : k < ps.length
        · have d0 := (hbr.cell (p := ⟨g3, k * 3, none⟩) hg3).trans (HP.out k hlt).1
          have d1 := (hbr.cell (p := ⟨g3, k * 3 + 1, none⟩) hg3).trans (HP.out k hlt).2.1
          have d2 := (hbr.cell (p := ⟨g3, k * 3 + 2, none⟩) hg3).trans (HP.out k hlt).2.2
          have HS := Lib.hid (Is.acc_snoc A X ps k hlt)
          have hmem : ps.getD k (0, 0, 0) ∈ ps := by simp [List.getD, List.getElem?_eq_getElem hlt]
          have hat := HQ.out.1 _ hmem
          clear hmem
          have di := HI.out _ hbr
          have HBr := Lib.hid hbr
          have zr := hbr.size
          clear hbr
          generalize hpp : ps.getD k (0, 0, 0) = pp at *
          clear hpp
          obtain ⟨pf, pn, pa⟩ := pp
          dsimp only at d0 d1 d2 HS hat
          have cF := Lib.hid (fun w => field_v A pf pn w hAlt)
          generalize Bt.fieldV A pf pn = FV at *
          generalize Is.acc A X (ps.take k) = V at *
          have hA := HA.out
          have hpw : IntKind.u64.wrap pa = pa := by rw [IntKind.wrap_u64]; omega
          obtain ⟨hat0, hat1⟩ := hat
          go_wp2_with fail
          have hAu : IntKind.u32.wrap imm = (A : Int) := by rw [IntKind.wrap_u32]; exact hA
          have di' : (wr.alloc (.cells #[.int .i64 pf, .int .i64 pn, .int .i64 pa] 203)).cell? ⟨w.heap.size, 4, none⟩ = some (.int .i64 imm) := (World.cell?_alloc_past _ _ _ (World.block_lt_of_cell? _ _ di)).trans di
          have hd : ∀ (W : World), ({ W with drawn := W.drawn + 1 } : World) = W.drew := fun _ => rfl
          refine wp_region_still_lit (by kernel_rfl) (by kernel_rfl) ?_
          rw [hd]
          repeat ((with_reducible refine wpStill_step (fun K hK => ?_)); go_simp; (try go_bits); (with_reducible refine hK _ ?_); clear hK K)
          still_call (still_of' (cF.out _))
          repeat ((with_reducible refine wpStill_step (fun K hK => ?_)); go_simp; (try go_bits); (with_reducible refine hK _ ?_); clear hK K)
          refine wpStill_nil ?_
          clear hd di'
          go_wp2
          go_roundw
          case rel => exact ⟨k + 1, by omega, by go_num, by rw [HS.out], (HBr.out.alloc HBr.out.size _).drew⟩
          case measure => simp [intOf]; omega
        · rw [List.take_of_length_le (by omega)]
          have HBr := Lib.hid hbr
          clear hbr
          go_wp2
          go_ret2
          exact ⟨ret2i (by rw [HV.out, HX.out]), HBw.out.trans (HBr.out.mono HBw.out.size)⟩
/-- A record's word and error's number. -/
def Is.enc (i : Is.Inst) : Int × Int :=
  if Is.legal i then (Is.encV i.op.toNat (Is.acc (i.imm % 4294967296).toNat (Is.base (Is.forms.getD i.op.toNat default) i.rd i.rs1 i.rs2) (Is.pieces (Is.forms.getD i.op.toNat default).shape)), 0) else (0, 20)
theorem Is.form_bd (n : Nat) (h : n < 48) : (Is.forms.getD n default).shape ≤ 8 ∧ (Is.forms.getD n default).code < 128 ∧ (Is.forms.getD n default).three < 8 ∧ (Is.forms.getD n default).seven < 128 := by
  have : ∀ k : Fin 48, (Is.forms.getD k.val default).shape ≤ 8 ∧ (Is.forms.getD k.val default).code < 128 ∧ (Is.forms.getD k.val default).three < 8 ∧ (Is.forms.getD k.val default).seven < 128 := by decide
  exact this ⟨n, h⟩
theorem Is.legal_op {i : Is.Inst} (h : Is.legal i = true) : 0 ≤ i.op ∧ i.op < 48 := by
  simp only [Is.legal, Bool.and_eq_true, decide_eq_true_eq] at h
  have h0 := h.1
  unfold Is.shape at h0
  split at h0
  · omega
  · omega
theorem enc_own (i : Is.Inst) (w : World) (ok : i.ok) : Calls Tryd.prog 122 #[i.v] w fun e w' => e = .returned (.tuple #[.int .u32 (Is.enc i).1, .int .i64 (Is.enc i).2]) ∧ Below w.heap.size w w' := by
  unfold Is.enc
  cases h : Is.legal i
  · exact enc_bad i w ok h
  · have hop := Is.legal_op h
    obtain ⟨op, rd, rs1, rs2, imm⟩ := i
    obtain ⟨n, rfl⟩ := Int.eq_ofNat_of_zero_le hop.1
    have hb := Is.form_bd n (by have h48 : (n : Int) < 48 := hop.2; omega)
    exact enc_core n rd rs1 rs2 imm w ok h (by have h48 : (n : Int) < 48 := hop.2; omega) _ rfl hb.1 hb.2.1 hb.2.2.1 hb.2.2.2 (imm % 4294967296).toNat (by omega)

end Go.Proofs.YtfafdkbnmfpbmaaDoor
