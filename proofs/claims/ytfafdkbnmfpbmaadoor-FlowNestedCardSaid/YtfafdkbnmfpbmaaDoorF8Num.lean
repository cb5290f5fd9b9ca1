/- Flow: number and flowing, of the laws. -/
import Derived.Test.YtfafdkbnmfpbmaaDoorF8Know
namespace Go.Proofs.YtfafdkbnmfpbmaaDoor
open Go.RowKit Kit
set_option linter.unusedVariables false
set_option linter.unusedSimpArgs false

def F8.val (l : List UInt8) : Nat := l.foldl (fun a c => 10 * a + (c.toNat - 48)) 0
theorem F8.val_snoc (l : List UInt8) (c : UInt8) : F8.val (l ++ [c]) = 10 * F8.val l + (c.toNat - 48) := by simp [F8.val, List.foldl_append]
theorem F8.fold_ge (l : List UInt8) : ∀ x : Nat, x ≤ l.foldl (fun a c => 10 * a + (c.toNat - 48)) x := by
  induction l with
  | nil => exact fun x => Nat.le_refl _
  | cons c t ih => exact fun x => Nat.le_trans (by omega) (ih (10 * x + (c.toNat - 48)))
theorem F8.val_take (l : List UInt8) (j : Nat) : F8.val (l.take j) ≤ F8.val l := by
  conv => rhs; rw [← List.take_append_drop j l]
  unfold F8.val
  rw [List.foldl_append]
  exact F8.fold_ge _ _
theorem F8.dec_val (n : Nat) : F8.val (Lib.decDigits n) = n ∧ (∀ c ∈ Lib.decDigits n, 48 ≤ c.toNat ∧ c.toNat ≤ 57) ∧ 0 < (Lib.decDigits n).length := by
  induction n using Nat.strongRecOn with
  | ind n ih =>
    have hb : ∀ m, m < 10 → (UInt8.ofNat (48 + m)).toNat = 48 + m := fun m hm => by rw [UInt8.toNat_ofNat']; omega
    unfold Lib.decDigits
    split
    · rename_i h
      refine ⟨?_, fun c hc => ?_, by simp⟩
      · show 10 * 0 + ((UInt8.ofNat (48 + n)).toNat - 48) = n
        rw [hb n h]; omega
      · simp only [List.mem_cons, List.not_mem_nil, or_false] at hc
        subst hc
        rw [hb n h]; omega
    · rename_i h
      obtain ⟨h1, h2, h3⟩ := ih (n / 10) (by omega)
      refine ⟨?_, fun c hc => ?_, by simp⟩
      · rw [F8.val_snoc, h1, hb (n % 10) (by omega)]; omega
      · rcases List.mem_append.1 hc with hc | hc
        · exact h2 c hc
        · simp only [List.mem_cons, List.not_mem_nil, or_false] at hc
          subst hc
          rw [hb (n % 10) (by omega)]; omega
set_option maxRecDepth 100000 in
set_option maxHeartbeats 1000000 in
theorem fnumber_none (s : List UInt8) (w : World) (h : F8.made s = false) : Calls Tryd.prog 20 #[.string ⟨s.toArray⟩] w fun e w' => e = .returned (.int .i64 (-1)) ∧ w = w' := by
  match s, h with
  | [], _ =>
    go_enter Tryd.func20, Tryd.ntmps20
    go_wp2_with fail
    go_ret
    exact ⟨rfl, rfl⟩
  | [c], h =>
    go_enter Tryd.func20, Tryd.ntmps20
    go_wp2_with fail
    go_ret
    exact ⟨rfl, rfl⟩
  | c :: d :: t, h =>
    have h0 : 0 < (c :: d :: t).length := by simp
    have hpos : (0 : Int) < ((c :: d :: t).length : Int) := by simp only [List.length_cons]; omega
    have h2 : ¬ ((c :: d :: t).length : Int) < 2 := by simp only [List.length_cons]; omega
    have hc : (c == 64) = false := h
    have e64 : ((((⟨(c :: d :: t).toArray⟩ : ByteArray)[0]'h0).toNat : Int) != 64) = true := by
      rw [L6.get_data (c :: d :: t) 0 h0]
      have := byte_eq c 64
      rw [hc] at this
      simp only [bne, List.getD_cons_zero]
      rw [show ((c.toNat : Int) == 64) = false from this]; rfl
    generalize c :: d :: t = s at *
    go_enter Tryd.func20, Tryd.ntmps20
    go_wp2_with fail
    go_ret
    exact ⟨rfl, rfl⟩
set_option maxRecDepth 100000 in
set_option maxHeartbeats 2000000 in
theorem fnumber_lab (n : Nat) (w : World) (hn : n ≤ 100000) : Calls Tryd.prog 20 #[.string ⟨(F8.lab n).toArray⟩] w fun e w' => e = .returned (.int .i64 (n : Int)) ∧ w = w' := by
  obtain ⟨hv, hd, hl⟩ := F8.dec_val n
  have hlen := F8.dec_len n
  have hs : F8.lab n = 64 :: Lib.decDigits n := rfl
  generalize Lib.decDigits n = ds at *
  have hsl : (F8.lab n).length = ds.length + 1 := by rw [hs]; rfl
  have hget : ∀ k, (F8.lab n).getD (k + 1) 0 = ds.getD k 0 := fun k => by rw [hs]; rfl
  have h0 : 0 < (F8.lab n).length := by omega
  have hpos : (0 : Int) < ((F8.lab n).length : Int) := by omega
  have h2 : ¬ ((F8.lab n).length : Int) < 2 := by omega
  have e64 : ((((⟨(F8.lab n).toArray⟩ : ByteArray)[0]'h0).toNat : Int) != 64) = false := by
    rw [L6.get_data (F8.lab n) 0 h0, hs]; rfl
  have HG := Lib.hid (fun k (hk : k < (F8.lab n).length) => L6.get_data (F8.lab n) k hk)
  have HGET := Lib.hid hget
  have HD := Lib.hid hd
  have HV := Lib.hid hv
  have HSL := Lib.hid hsl
  have HVT := Lib.hid (fun j => F8.val_take ds j)
  have HLEN := Lib.hid hlen
  clear hs hget hd hv hlen
  generalize F8.lab n = s at *
  go_enter Tryd.func20, Tryd.ntmps20
  go_wp2_with fail
  go_loop [3, 4] (fun a i => ∃ k : Nat, a = .int .i64 (F8.val (ds.take k) : Int) ∧ i = .int .i64 ((k + 1 : Nat) : Int) ∧ k ≤ ds.length) (fun _ i => s.length - (intOf i).toNat)
  case atStart => exact ⟨0, by simp [F8.val], rfl, Nat.zero_le _⟩
  case round =>
    obtain ⟨k, rfl, rfl, hk⟩ := hrel
    by_cases hlt : k < ds.length
    · have hkl : k + 1 < s.length := by have := HSL.out; omega
      have hlt' : (k : Int) + 1 < (s.length : Int) := by omega
      have hw1 : IntKind.i64.wrap ((k : Int) + 1 + 1) = (k : Int) + 1 + 1 := by have := HSL.out; have := HLEN.out; rw [IntKind.wrap_i64]; omega
      have hmem : ds.getD k 0 ∈ ds := by rw [List.getD, List.getElem?_eq_getElem hlt]; exact List.getElem_mem hlt
      have hdd := HD.out _ hmem
      have hst : F8.val (ds.take (k + 1)) = 10 * F8.val (ds.take k) + ((ds.getD k 0).toNat - 48) := by
        rw [List.take_add_one, List.getElem?_eq_getElem hlt, Option.toList_some, F8.val_snoc]
        simp [List.getD, hlt]
      have hvt := HVT.out (k + 1)
      have hvn := HV.out
      have HST := Lib.hid hst
      have HLT := Lib.hid (show k + 1 ≤ ds.length from hlt)
      obtain ⟨D, hD⟩ : ∃ D : Nat, (ds.getD k 0).toNat - 48 = D := ⟨_, rfl⟩
      have e1 : IntKind.u8.wrap ((((⟨s.toArray⟩ : ByteArray)[k + 1]'hkl).toNat : Int) - 48) = (D : Int) := by rw [HG.out (k + 1) hkl, HGET.out k, IntKind.wrap_u8]; omega
      rw [hD] at HST
      have hst2 := HST.out
      have hk1 : (0 : Int) ≤ (k : Int) + 1 := by omega
      have hkn : ((k : Int) + 1).toNat = k + 1 := by omega
      generalize F8.val (ds.take k) = V at *
      have hwm : IntKind.i64.wrap (10 * (V : Int)) = 10 * (V : Int) := by rw [IntKind.wrap_i64]; omega
      have hwa : IntKind.i64.wrap (10 * (V : Int) + (D : Int)) = 10 * (V : Int) + (D : Int) := by rw [IntKind.wrap_i64]; omega
      have hwd : IntKind.i64.wrap (D : Int) = (D : Int) := by rw [IntKind.wrap_i64]; omega
      clear hmem hdd hst hvt hvn hD hst2 hlt
      go_wp2_with fail
      go_round
      case rel => exact ⟨k + 1, by rw [HST.out]; simp, by simp, HLT.out⟩
      case measure => have := HLT.out; have := HSL.out; simp [intOf]; omega
    · obtain rfl : k = ds.length := by omega
      have hge : ¬ (ds.length : Int) + 1 < (s.length : Int) := by have := HSL.out; omega
      go_wp2_with fail
      go_ret
      exact ⟨congrArg (fun x : Nat => Ending.returned (.int .i64 (x : Int))) HV.out, rfl⟩
def F8.words : List (List UInt8) := [F8.wIf, F8.wElse, F8.wThen, F8.wBegin, F8.wWhile, F8.wRepeat, F8.wUntil, F8.wAgain]
theorem F8.words_none {s : List UInt8} (h : ∀ j, j < 8 → F8.words.getD j [] ≠ s) : F8.kind s = none := by
  have e := fun j hj => Ne.symm (h j hj)
  exact F8.no_kind (e 0 (by decide)) (e 1 (by decide)) (e 2 (by decide)) (e 3 (by decide)) (e 4 (by decide)) (e 5 (by decide)) (e 6 (by decide)) (e 7 (by decide))
end Go.Proofs.YtfafdkbnmfpbmaaDoor
