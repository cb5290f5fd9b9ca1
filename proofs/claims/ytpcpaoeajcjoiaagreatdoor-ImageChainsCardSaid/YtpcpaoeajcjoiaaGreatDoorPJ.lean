/- Texts joined, what is not reached left out. -/
import Derived.Test.YtpcpaoeajcjoiaaGreatDoorPH
import Derived.Test.YtpcpaoeajcjoiaaGreatDoorPI
import Derived.Test.YtpcpaoeajcjoiaaGreatDoorPG
import Derived.Deep.RegionLaw
import Derived.Test.YtpcpaoeajcjoiaaGreatDoorKX
/- Layer 10: what is read of the image's bytes. Plain. -/
namespace Go.Proofs.YtpcpaoeajcjoiaaGreatDoor
set_option linter.unusedVariables false
set_option linter.unusedSimpArgs false

theorem Im.wB_head (pos la : Nat) (x : Im.W) : Im.wB pos la x = Nm.headB x.name x.fl la (pos + Im.hsz x) (4 * x.n) ++ (As.four pos ++ (List.replicate x.n Im.nopB).flatten) := by
  have h : Nm.les [la, pos + Im.hsz x, 4 * x.n] = As.four la ++ (As.four (pos + Im.hsz x) ++ (As.four (4 * x.n) ++ [])) := rfl
  unfold Im.wB Nm.headB Im.pd
  rw [h]
  simp only [List.append_assoc, List.cons_append, List.nil_append, List.append_nil]
def Im.z32 : List Nat := List.replicate 32 0
def Im.img (ws : List Im.W) : List UInt8 := Im.nopB ++ (Im.bytesA 4 Im.z32 ws ++ Im.slotsB (Im.laF 4 Im.z32 ws))
theorem Im.img_len (ws : List Im.W) (h : ∀ x ∈ ws, Im.Fine x) : (Im.img ws).length = 4 + Im.szs ws + 128 := by
  unfold Im.img
  rw [List.length_append, List.length_append, Im.bytesA_len _ _ _ h, Im.slotsB_len]
  show 4 + _ = _
  omega
theorem Im.img_at (A : List Im.W) (x : Im.W) (r : List Im.W) (h : ∀ y ∈ A, Im.Fine y) : ∃ P more, P.length = 4 + Im.szs A ∧ Im.img (A ++ x :: r) = P ++ (Im.wB (4 + Im.szs A) ((Im.laF 4 Im.z32 A).getD (Im.key x) 0) x ++ more) := by
  refine ⟨Im.nopB ++ Im.bytesA 4 Im.z32 A, Im.bytesA (4 + Im.szs A + Im.wsz x) ((Im.laF 4 Im.z32 A).set (Im.key x) (4 + Im.szs A)) r ++ Im.slotsB (Im.laF 4 Im.z32 (A ++ x :: r)), ?_, ?_⟩
  · rw [List.length_append, Im.bytesA_len _ _ _ h]; rfl
  · unfold Im.img
    rw [Im.bytesA_app, Im.bytesA]
    simp only [List.append_assoc]
theorem Nm.wat_at (P Q : List UInt8) (v : Nat) (hv : v < 4294967296) : Nm.wat (P ++ (As.four v ++ Q)) P.length = v := by
  have hg : ∀ j, (P ++ (As.four v ++ Q)).getD (P.length + j) 0 = (As.four v ++ Q).getD j 0 := fun j => by
    rw [List.getD_eq_getElem?_getD, List.getD_eq_getElem?_getD, List.getElem?_append_right (by omega)]
    congr 2
    omega
  unfold Nm.wat
  rw [hg 1, hg 2, hg 3, show (P ++ (As.four v ++ Q)).getD P.length 0 = (As.four v ++ Q).getD 0 0 from hg 0]
  exact Nm.word_le4 hv
theorem Im.la_lt : ∀ (ws : List Im.W) (pos : Nat) (la : List Nat), (∀ k, la.getD k 0 < pos) → ∀ k, (Im.laF pos la ws).getD k 0 < pos + Im.szs ws
  | [], pos, la, h, k => by unfold Im.laF Im.szs; exact h k
  | x :: r, pos, la, h, k => by
    have hw : 0 < Im.wsz x := by unfold Im.wsz Im.hsz; omega
    unfold Im.laF Im.szs
    have := Im.la_lt r (pos + Im.wsz x) (la.set (Im.key x) pos) (fun j => by
      rw [Im.getD_set]
      split
      · omega
      · have := h j; omega) k
    omega
theorem Im.z32_at (k : Nat) : Im.z32.getD k 0 = 0 := by
  unfold Im.z32
  rw [List.getD_eq_getElem?_getD, List.getElem?_replicate]
  split <;> rfl
theorem Im.link_lt (ws : List Im.W) (k : Nat) : (Im.laF 4 Im.z32 ws).getD k 0 < 4 + Im.szs ws := Im.la_lt ws 4 Im.z32 (fun j => by rw [Im.z32_at]; omega) k
theorem Im.la_len : ∀ (ws : List Im.W) (pos : Nat) (la : List Nat), (Im.laF pos la ws).length = la.length
  | [], _, _ => rfl
  | x :: r, pos, la => by unfold Im.laF; rw [Im.la_len r, List.length_set]
theorem Im.la_snoc (A : List Im.W) (x : Im.W) (k : Nat) (hk : k < 32) : (Im.laF 4 Im.z32 (A ++ [x])).getD k 0 = if Im.key x = k then 4 + Im.szs A else (Im.laF 4 Im.z32 A).getD k 0 := by
  rw [Im.laF_app]
  show ((Im.laF 4 Im.z32 A).set (Im.key x) (4 + Im.szs A)).getD k 0 = _
  rw [Im.getD_set, Im.la_len]
  by_cases h : Im.key x = k
  · rw [if_pos ⟨h, hk⟩, if_pos h]
  · rw [if_neg (fun e => h e.1), if_neg h]
/-- A word's head, read where it lies. -/
theorem Im.img_read (A : List Im.W) (x : Im.W) (r : List Im.W) (h : ∀ y ∈ A, Im.Fine y) (hx : Im.Fine x) (hr : Nm.right x.name = true) (hb : 4 + Im.szs (A ++ x :: r) ≤ 130000) :
    Nm.readV ((Im.img (A ++ x :: r)).drop (4 + Im.szs A)) = .tuple #[hv ⟨x.name.toArray⟩ x.fl ((Im.laF 4 Im.z32 A).getD (Im.key x) 0 : Nat) (4 + Im.szs A + Im.hsz x : Nat) (4 * x.n : Nat), .int .i64 (Nm.lengthN x.name.length : Nat), .int .i64 0] := by
  obtain ⟨P, more, hP, he⟩ := Im.img_at A x r h
  have hl := Im.link_lt A (Im.key x)
  have hw : Im.wsz x = Im.hsz x + 4 * x.n := rfl
  rw [Im.szs_app, Im.szs] at hb
  rw [he, ← hP, List.drop_left' rfl, hP, Im.wB_head, List.append_assoc]
  exact Nm.back1 x.name x.fl _ _ _ _ hr hx.1 hx.2.1 (by omega) (by omega) (by have := hx.2.2.1; omega)
/-- The word behind a head. -/
theorem Im.img_back (A : List Im.W) (x : Im.W) (r : List Im.W) (h : ∀ y ∈ A, Im.Fine y) (hx : Im.Fine x) (hb : 4 + Im.szs (A ++ x :: r) ≤ 130000) :
    Nm.wat (Im.img (A ++ x :: r)) (4 + Im.szs A + Nm.lengthN x.name.length) = 4 + Im.szs A := by
  obtain ⟨P, more, hP, he⟩ := Im.img_at A x r h
  rw [Im.szs_app, Im.szs] at hb
  have hl : (Nm.headB x.name x.fl ((Im.laF 4 Im.z32 A).getD (Im.key x) 0) (4 + Im.szs A + Im.hsz x) (4 * x.n)).length = Nm.lengthN x.name.length := Nm.headB_length hx.1
  rw [he, Im.wB_head, show 4 + Im.szs A + Nm.lengthN x.name.length = (P ++ Nm.headB x.name x.fl ((Im.laF 4 Im.z32 A).getD (Im.key x) 0) (4 + Im.szs A + Im.hsz x) (4 * x.n)).length by rw [List.length_append, hP, hl]]
  rw [show P ++ (Nm.headB x.name x.fl ((Im.laF 4 Im.z32 A).getD (Im.key x) 0) (4 + Im.szs A + Im.hsz x) (4 * x.n) ++ (As.four (4 + Im.szs A) ++ (List.replicate x.n Im.nopB).flatten) ++ more) = (P ++ Nm.headB x.name x.fl ((Im.laF 4 Im.z32 A).getD (Im.key x) 0) (4 + Im.szs A + Im.hsz x) (4 * x.n)) ++ (As.four (4 + Im.szs A) ++ ((List.replicate x.n Im.nopB).flatten ++ more)) by simp only [List.append_assoc]]
  exact Nm.wat_at _ _ _ (by omega)
theorem Im.slots_drop (f : Nat → List UInt8) (hf : ∀ k, (f k).length = 4) : ∀ (ks : List Nat) (i : Nat) (hi : i < ks.length), ∃ P Q, P.length = 4 * i ∧ ks.flatMap f = P ++ (f ks[i] ++ Q)
  | k :: r, 0, hi => ⟨[], r.flatMap f, rfl, by rw [List.flatMap_cons]; rfl⟩
  | k :: r, i + 1, hi => by
    obtain ⟨P, Q, h1, h2⟩ := Im.slots_drop f hf r i (by simpa using hi)
    refine ⟨f k ++ P, Q, by rw [List.length_append, hf, h1]; omega, ?_⟩
    rw [List.flatMap_cons, h2, List.append_assoc]
    rfl
/-- A slot of the heads. -/
theorem Im.img_head (ws : List Im.W) (h : ∀ y ∈ ws, Im.Fine y) (hb : 4 + Im.szs ws ≤ 130000) (k : Nat) (hk : k < 32) : Nm.wat (Im.img ws) (4 + Im.szs ws + 4 * k) = (Im.laF 4 Im.z32 ws).getD k 0 := by
  obtain ⟨P, Q, h1, h2⟩ := Im.slots_drop (fun k => As.four ((Im.laF 4 Im.z32 ws).getD k 0)) (fun _ => rfl) (List.range 32) k (by rw [List.length_range]; exact hk)
  have hl := Im.link_lt ws k
  rw [List.getElem_range] at h2
  have e : Im.img ws = (Im.nopB ++ (Im.bytesA 4 Im.z32 ws ++ P)) ++ (As.four ((Im.laF 4 Im.z32 ws).getD k 0) ++ Q) := by
    unfold Im.img Im.slotsB
    rw [h2]
    simp only [List.append_assoc]
  rw [e, show 4 + Im.szs ws + 4 * k = (Im.nopB ++ (Im.bytesA 4 Im.z32 ws ++ P)).length by
    rw [List.length_append, List.length_append, Im.bytesA_len _ _ _ h, h1]
    show _ = 4 + _
    omega]
  exact Nm.wat_at _ _ _ (by omega)
theorem Im.key_lt (x : Im.W) (h : Im.Fine x) : Im.key x < 32 := by
  have h1 : Im.bucket x.name < 16 := by
    unfold Im.bucket
    rw [← Nm.foldN_8]
    exact Nm.foldN_lt _ _
  have := h.2.2.2
  unfold Im.key
  omega
theorem Im.szs_le : ∀ (ws : List Im.W), (∀ x ∈ ws, Im.Fine x) → Im.szs ws ≤ 64 * ws.length
  | [], _ => Nat.le_refl _
  | x :: r, h => by
    have h1 := Im.szs_le r fun y hy => h y (by simp [hy])
    obtain ⟨h2, h3, h4, _⟩ := h x (by simp)
    have : Im.wsz x ≤ 64 := by
      unfold Im.wsz Im.hsz Nm.lengthN
      rw [if_neg (by omega)]
      omega
    unfold Im.szs
    rw [List.length_cons]
    omega
/-- How many words there are whose bucket is so far. -/
def Im.cnt (p : Nat → Bool) (l : List Im.W) : Nat := l.countP fun x => p (Im.key x)
theorem Im.cnt_next (k : Nat) (l : List Im.W) : Im.cnt (fun j => decide (j < k)) l + Im.cnt (fun j => decide (j = k)) l = Im.cnt (fun j => decide (j < k + 1)) l := by
  unfold Im.cnt
  induction l with
  | nil => rfl
  | cons x r ih =>
    simp only [List.countP_cons] at ih ⊢
    rw [← ih]
    rcases Nat.lt_trichotomy (Im.key x) k with h | h | h
    · rw [if_pos (by simpa using h), if_neg (by simp; omega), if_pos (by simp; omega)]; omega
    · rw [if_neg (by simp; omega), if_pos (by simpa using h), if_pos (by simp; omega)]; omega
    · rw [if_neg (by simp; omega), if_neg (by simp; omega), if_neg (by simp; omega)]; omega
theorem Im.cnt_all (l : List Im.W) (h : ∀ x ∈ l, Im.Fine x) : Im.cnt (fun j => decide (j < 32)) l = l.length := by
  unfold Im.cnt
  rw [List.countP_eq_length]
  intro x hx
  simpa using Im.key_lt x (h x hx)
theorem Im.cnt_none (l : List Im.W) : Im.cnt (fun j => decide (j < 0)) l = 0 := by
  unfold Im.cnt
  rw [List.countP_eq_zero]
  intro x hx
  simp
theorem Im.cnt_drop (k : Nat) (l : List Im.W) (i : Nat) (hi : i < l.length) : Im.cnt (fun j => decide (j = k)) (l.drop i) = (if Im.key l[i] = k then 1 else 0) + Im.cnt (fun j => decide (j = k)) (l.drop (i + 1)) := by
  unfold Im.cnt
  rw [List.drop_eq_getElem_cons hi, List.countP_cons, Nat.add_comm]
  simp
theorem Im.take_next {l : List Im.W} {i : Nat} (hi : i < l.length) : l = l.take i ++ l[i] :: l.drop (i + 1) := by rw [← List.drop_eq_getElem_cons hi, List.take_append_drop]
end Go.Proofs.YtpcpaoeajcjoiaaGreatDoor
/- Layer 10, the law's side: digits, a word of bytes, the source of words. -/
namespace Go.Proofs.YtpcpaoeajcjoiaaGreatDoor
open Go.RowKit Kit
set_option linter.unusedVariables false
set_option linter.unusedSimpArgs false

theorem Im.byte_str (w : World) (n : Nat) (hn : n < 10) : (convert 26 9 (.slice (some ⟨w.heap.size, 0, none⟩) 1 1)).run Tryz.prog (w.alloc (.cells #[.int .u8 (48 + (n : Int))] 5)) = .ok (.string ⟨[UInt8.ofNat (48 + n)].toArray⟩) (w.alloc (.cells #[.int .u8 (48 + (n : Int))] 5)) := by
  have hbk := Bk.fresh w 5 #[.int .u8 (48 + (n : Int))]
  have e : (UInt8.ofNat (48 + n)).toNat = 48 + n := by rw [UInt8.toNat_ofNat']; omega
  refine As.str_of (b := [UInt8.ofNat (48 + n)]) ⟨rfl, some ⟨w.heap.size, 0, none⟩, 1, rfl, Nat.le_refl _, by unfold maxLen; omega, fun _ => ⟨_, 0, rfl, hbk.lt, fun j u hu => ?_⟩⟩
  rw [Nat.zero_add, hbk.cell j]
  simp only [bv, List.map_cons, List.map_nil, e] at hu
  rw [← hu]
  simp
set_option maxRecDepth 100000 in
set_option maxHeartbeats 1000000 in
theorem idigits_nat : ∀ (n : Nat) (w : World), n ≤ 4294967296 → Calls Tryz.prog 55 #[.int .i64 (n : Int)] w fun e w' => e = .returned (.string ⟨(Lib.decDigits n).toArray⟩) ∧ Below w.heap.size w w' := by
  intro n
  induction n using Nat.strongRecOn with
  | ind n ih =>
    intro w hn
    by_cases h10 : n < 10
    · have hlt : (n : Int) < 10 := by omega
      have hw1 : IntKind.i64.wrap (48 + (n : Int)) = 48 + (n : Int) := by rw [IntKind.wrap_i64]; omega
      have hw2 : IntKind.u8.wrap (48 + (n : Int)) = 48 + (n : Int) := by rw [IntKind.wrap_u8]; omega
      have HD := Lib.hid (show Lib.decDigits n = [UInt8.ofNat (48 + n)] from by unfold Lib.decDigits; rw [dif_pos h10])
      have hcv := Im.byte_str w n h10
      generalize UInt8.ofNat (48 + n) = ch at HD hcv
      have HAL := Lib.hid ((Below.refl w.heap.size w).alloc (Nat.le_refl _) (.cells #[.int .u8 (48 + (n : Int))] 5))
      clear ih
      go_enter Tryz.func55, Tryz.ntmps55
      go_wp2_with fail
      go_ret
      exact ⟨by rw [HD.out]; rfl, HAL.out⟩
    · have hge : ¬ (n : Int) < 10 := by omega
      obtain ⟨q, hq⟩ : ∃ q, n / 10 = q := ⟨_, rfl⟩
      obtain ⟨r, hr⟩ : ∃ r, n % 10 = r := ⟨_, rfl⟩
      have C1 := Lib.hid (fun W => ih q (by omega) W (by omega))
      have C2 := Lib.hid (fun W => ih r (by omega) W (by omega))
      have t1 : (n : Int).tdiv 10 = (q : Int) := by rw [Int.tdiv_eq_ediv_of_nonneg (by omega)]; omega
      have t2 : (n : Int).tmod 10 = (r : Int) := by rw [Int.tmod_eq_emod_of_nonneg (by omega)]; omega
      have hw1 : IntKind.i64.wrap (q : Int) = (q : Int) := by rw [IntKind.wrap_i64]; omega
      have hw2 : IntKind.i64.wrap (r : Int) = (r : Int) := by rw [IntKind.wrap_i64]; omega
      have HD := Lib.hid (show Lib.decDigits n = Lib.decDigits q ++ Lib.decDigits r from by
        conv => lhs; unfold Lib.decDigits
        rw [dif_neg h10, hq, hr]
        congr 1
        unfold Lib.decDigits
        rw [dif_pos (by omega)])
      have hl1 := F8.dec_len q
      have hl2 := F8.dec_len r
      have hlen : ¬ 9223372036854775807 < (Lib.decDigits q).length + (Lib.decDigits r).length := by omega
      clear ih hq hr hl1 hl2 hn
      go_enter Tryz.func55, Tryz.ntmps55
      go_wp2_with (first | (go_at_call 55; with_reducible refine (C1.out _).mono ?_; rintro e w1 ⟨rfl, hb1⟩) | (go_at_call 55; with_reducible refine (C2.out _).mono ?_; rintro e w2 ⟨rfl, hb2⟩))
      go_ret
      exact ⟨by rw [HD.out]; exact congrArg (fun x => Ending.returned (.string x)) (app_eq _ _), hb1.trans (hb2.mono hb1.size)⟩
theorem inum10_any (n : Int) (w : World) : Calls Tryz.prog 21 #[.int .i64 n] w fun e w' => e = .returned (.int .i64 n) ∧ w = w' := by
  go_enter Tryz.func21, Tryz.ntmps21
  go_wp2
  go_ret
  exact ⟨rfl, rfl⟩
/-- A word at a place of bytes; nought: there is none. -/
def Im.w32 (b : List UInt8) (a : Nat) : Nat := if a + 4 ≤ b.length then Nm.wat b a else 0
theorem Im.wrap_u32 (n : Nat) (h : n < 4294967296) : IntKind.u32.wrap (n : Int) = n := by rw [IntKind.wrap_u32]; omega
theorem Im.wrap_u64 (n : Nat) (h : n < 18446744073709551616) : IntKind.u64.wrap (n : Int) = n := by rw [IntKind.wrap_u64]; omega
set_option maxRecDepth 20000 in
theorem iword_any (v : Value) (b : List UInt8) (a : Nat) (w : World) (h : Rd w 1 v b.length (bv b)) (hb : b.length ≤ 1000000) (ha : a < 4294967296) :
    Calls Tryz.prog 22 #[v, .int .u32 (a : Int)] w fun e w' => e = .returned (.int .u32 (Im.w32 b a : Nat)) ∧ Below w.heap.size w w' := by
  have e0 := Im.wrap_u64 a (by omega)
  have e1 : IntKind.u64.wrap ((a : Int) + 4) = (a : Int) + 4 := Im.wrap_u64 (a + 4) (by omega)
  have e2 := Im.wrap_u64 b.length (by omega)
  by_cases hx : a + 4 ≤ b.length
  · have HV0 := Lib.hid (show Im.w32 b a = Nm.wat b a from by unfold Im.w32; rw [if_pos hx])
    have hx' : ¬ (b.length : Int) < (a : Int) + 4 := by omega
    obtain ⟨hl, A, c, rfl, h2, h3, h4⟩ := h
    obtain ⟨g, off, rfl, hg, hc⟩ := h4 (by omega)
    have hcell : ∀ j, j < 4 → w.cell? ⟨g, off + (a + j), none⟩ = some (.int .u8 (b.getD (a + j) 0).toNat) := fun j hj => by
      refine hc (a + j) _ ?_
      unfold bv
      rw [List.getElem?_map, List.getD_eq_getElem?_getD, List.getElem?_eq_getElem (show a + j < b.length by omega)]
      rfl
    have c0 := hcell 0 (by omega)
    have c1 := hcell 1 (by omega)
    have c2 := hcell 2 (by omega)
    have c3 := hcell 3 (by omega)
    rw [Nat.add_zero] at c0
    have HV1 := Lib.hid (show Nm.wat b a = Nm.wordN (b.getD a 0).toNat (b.getD (a + 1) 0).toNat (b.getD (a + 2) 0).toNat (b.getD (a + 3) 0).toNat from rfl)
    have h0 := (b.getD a 0).toNat_lt
    have h1 := (b.getD (a + 1) 0).toNat_lt
    have h22 := (b.getD (a + 2) 0).toNat_lt
    have h33 := (b.getD (a + 3) 0).toNat_lt
    generalize (b.getD a 0).toNat = x0 at *
    generalize (b.getD (a + 1) 0).toNat = x1 at *
    generalize (b.getD (a + 2) 0).toNat = x2 at *
    generalize (b.getD (a + 3) 0).toNat = x3 at *
    have HV := Lib.hid (Nm.word_or x0 x1 x2 x3 h0 h1 h22 h33)
    have f1 : IntKind.u32.wrap ((a : Int) + 1) = ((a + 1 : Nat) : Int) := Im.wrap_u32 (a + 1) (by omega)
    have f2 : IntKind.u32.wrap ((a : Int) + 2) = ((a + 2 : Nat) : Int) := Im.wrap_u32 (a + 2) (by omega)
    have f3 : IntKind.u32.wrap ((a : Int) + 3) = ((a + 3 : Nat) : Int) := Im.wrap_u32 (a + 3) (by omega)
    have l0 : (a : Int) < (b.length : Int) := by omega
    have l1 : ((a + 1 : Nat) : Int) < (b.length : Int) := by omega
    have l2 : ((a + 2 : Nat) : Int) < (b.length : Int) := by omega
    have l3 : ((a + 3 : Nat) : Int) < (b.length : Int) := by omega
    clear hcell hc hl h4 h3 h2
    generalize a + 1 = a1 at *
    generalize a + 2 = a2 at *
    generalize a + 3 = a3 at *
    go_enter Tryz.func22, Tryz.ntmps22
    go_wp2
    refine wp_region_still_lit (by kernel_rfl) (by kernel_rfl) ?_
    repeat ((with_reducible refine wpStill_step (fun K hK => ?_)); go_simp; (try go_bits); (with_reducible refine hK _ ?_); clear hK K)
    refine wpStill_nil ?_
    go_wp2
    go_ret
    exact ⟨ret_int (by rw [HV0.out, HV1.out]; exact HV.out), (Below.refl _ _).drew⟩
  · have HV0 := Lib.hid (show Im.w32 b a = 0 from by unfold Im.w32; rw [if_neg hx])
    have hx' : (b.length : Int) < (a : Int) + 4 := by omega
    obtain ⟨A, c, rfl⟩ := h.form
    go_enter Tryz.func22, Tryz.ntmps22
    go_wp2
    go_ret
    exact ⟨ret_int (by rw [HV0.out]; rfl), Below.refl _ _⟩
end Go.Proofs.YtpcpaoeajcjoiaaGreatDoor
/- Layer 10, the law's side: the source of words. -/
namespace Go.Proofs.YtpcpaoeajcjoiaaGreatDoor
open Go.RowKit Kit
set_option linter.unusedVariables false
set_option linter.unusedSimpArgs false

/-- A word as it comes in. -/
structure Im.Raw where
  name : List UInt8
  f : Int
  n : Int
  l : Int
def Im.rowC (rs : List Im.Raw) : List Value := rs.flatMap fun r => [.string ⟨r.name.toArray⟩, .int .i64 r.f, .int .i64 r.n, .int .i64 r.l]
def Im.Raw.w (r : Im.Raw) : Im.W := ⟨r.name, (r.f % 16).toNat, (r.n % 4).toNat, (r.l % 2).toNat⟩
def Im.I64 (x : Int) : Prop := -9223372036854775808 ≤ x ∧ x ≤ 9223372036854775807
def Im.Raw.ok (r : Im.Raw) : Prop := Im.I64 r.f ∧ Im.I64 r.n ∧ Im.I64 r.l
theorem Im.row_rd {w : World} {v : Value} {rs : List Im.Raw} (h : Rd w 4 v rs.length (Im.rowC rs)) {k : Nat} (hk : k < rs.length) :
    ∃ g off c, v = .slice (some ⟨g, off, none⟩) rs.length c ∧ g < w.heap.size ∧ w.cell? ⟨g, off + k * 4, none⟩ = some (.string ⟨rs[k].name.toArray⟩) ∧ w.cell? ⟨g, off + k * 4 + 1, none⟩ = some (.int .i64 rs[k].f) ∧ w.cell? ⟨g, off + k * 4 + 2, none⟩ = some (.int .i64 rs[k].n) ∧ w.cell? ⟨g, off + k * 4 + 3, none⟩ = some (.int .i64 rs[k].l) := by
  obtain ⟨hl, A, c, rfl, h2, h3, h4⟩ := h
  obtain ⟨g, off, rfl, hg, hc⟩ := h4 (by omega)
  have hat : ∀ (l : List Im.Raw) (i : Nat) (hi : i < l.length), (Im.rowC l)[i * 4]? = some (.string ⟨l[i].name.toArray⟩) ∧ (Im.rowC l)[i * 4 + 1]? = some (.int .i64 l[i].f) ∧ (Im.rowC l)[i * 4 + 2]? = some (.int .i64 l[i].n) ∧ (Im.rowC l)[i * 4 + 3]? = some (.int .i64 l[i].l) := by
    intro l
    induction l with
    | nil => intro i hi; simp at hi
    | cons p r ih =>
      intro i hi
      cases i with
      | zero => exact ⟨rfl, rfl, rfl, rfl⟩
      | succ i =>
        obtain ⟨e1, e2, e3, e4⟩ := ih i (by simpa using hi)
        refine ⟨?_, ?_, ?_, ?_⟩
        · rw [show (i + 1) * 4 = i * 4 + 1 + 1 + 1 + 1 by omega]; exact e1
        · rw [show (i + 1) * 4 + 1 = i * 4 + 1 + 1 + 1 + 1 + 1 by omega]; exact e2
        · rw [show (i + 1) * 4 + 2 = i * 4 + 2 + 1 + 1 + 1 + 1 by omega]; exact e3
        · rw [show (i + 1) * 4 + 3 = i * 4 + 3 + 1 + 1 + 1 + 1 by omega]; exact e4
  obtain ⟨e1, e2, e3, e4⟩ := hat rs k hk
  exact ⟨g, off, c, rfl, hg, hc _ _ e1, hc _ _ e2, hc _ _ e3, hc _ _ e4⟩
/-- What the remainders come to. -/
theorem Im.mod_facts (x : Int) (k : Nat) (hk : 0 < k) (hk2 : k ≤ 16) : ∃ (a b : Int) (m : Nat), Int.tmod x k = a ∧ IntKind.i64.wrap a = a ∧ IntKind.i64.wrap (a + (k : Int)) = b ∧ Int.tmod b k = (m : Int) ∧ IntKind.i64.wrap (m : Int) = (m : Int) ∧ m = (x % k).toNat ∧ m < k := by
  have h1 := Int.tmod_lt_of_pos x (show (0 : Int) < k by omega)
  have h2 := Int.lt_tmod_of_pos x (show (0 : Int) < k by omega)
  have hm : (x % (k : Int)) < k := Int.emod_lt_of_pos x (by omega)
  have hm0 : 0 ≤ (x % (k : Int)) := Int.emod_nonneg x (by omega)
  refine ⟨Int.tmod x k, Int.tmod x k + k, (x % k).toNat, rfl, ?_, ?_, ?_, ?_, rfl, by omega⟩
  · rw [IntKind.wrap_i64]; omega
  · rw [IntKind.wrap_i64]; omega
  · rw [Int.tmod_eq_emod_of_nonneg (by omega), Int.add_emod_right]
    have e : Int.tmod x k % k = x % k := by
      have hd := Int.mul_tdiv_add_tmod x k
      conv => rhs; rw [← hd]
      rw [Int.mul_add_emod_self_left]
    rw [e]
    omega
  · rw [IntKind.wrap_i64]; omega
theorem Im.mod2 (x : Int) : ∃ (a b : Int) (m : Nat), Int.tmod x 2 = a ∧ IntKind.i64.wrap a = a ∧ IntKind.i64.wrap (a + 2) = b ∧ Int.tmod b 2 = (m : Int) ∧ IntKind.i64.wrap (m : Int) = (m : Int) ∧ m = (x % 2).toNat ∧ m < 2 := Im.mod_facts x 2 (by decide) (by decide)
theorem Im.mod4 (x : Int) : ∃ (a b : Int) (m : Nat), Int.tmod x 4 = a ∧ IntKind.i64.wrap a = a ∧ IntKind.i64.wrap (a + 4) = b ∧ Int.tmod b 4 = (m : Int) ∧ IntKind.i64.wrap (m : Int) = (m : Int) ∧ m = (x % 4).toNat ∧ m < 4 := Im.mod_facts x 4 (by decide) (by decide)
theorem Im.mod16 (x : Int) : ∃ (a b : Int) (m : Nat), Int.tmod x 16 = a ∧ IntKind.i64.wrap a = a ∧ IntKind.i64.wrap (a + 16) = b ∧ Int.tmod b 16 = (m : Int) ∧ IntKind.i64.wrap (m : Int) = (m : Int) ∧ m = (x % 16).toNat ∧ m < 16 := Im.mod_facts x 16 (by decide) (by decide)
/-- The text so far. -/
def Im.pre (ws : List Im.W) : List UInt8 := L6.text (Im.nop :: ws.flatMap Im.srcW)
def Im.wordT (x : Im.W) : List UInt8 := [108, 105, 115, 116, 32] ++ (Lib.decDigits x.l ++ ([10, 100, 101, 102, 32] ++ (x.name ++ ([32] ++ (Lib.decDigits x.fl ++ [10])))))
theorem Im.text_app (A B : List L6.Line) : L6.text (A ++ B) = L6.text A ++ L6.text B := by simp [L6.text]
theorem Im.nop_text : L6.text [Im.nop] = [110, 111, 112, 10] := rfl
theorem Im.nops_text : ∀ k : Nat, L6.text (List.replicate k Im.nop) ++ [110, 111, 112, 10] = L6.text (List.replicate (k + 1) Im.nop) := fun k => by
  rw [List.replicate_succ', Im.text_app, Im.nop_text]
theorem Im.pre_snoc (ws : List Im.W) (x : Im.W) : Im.pre (ws ++ [x]) = (Im.pre ws ++ Im.wordT x) ++ L6.text (List.replicate x.n Im.nop) := by
  have h : L6.text (Im.srcW x) = Im.wordT x ++ L6.text (List.replicate x.n Im.nop) := by
    unfold Im.srcW
    rw [show ((⟨[], Im.tList, [Lib.decDigits x.l]⟩ : L6.Line) :: (⟨[], Im.tDef, [x.name, Lib.decDigits x.fl]⟩ : L6.Line) :: List.replicate x.n Im.nop) = [⟨[], Im.tList, [Lib.decDigits x.l]⟩, ⟨[], Im.tDef, [x.name, Lib.decDigits x.fl]⟩] ++ List.replicate x.n Im.nop from rfl, Im.text_app]
    congr 1
    unfold Im.wordT L6.text L6.lineText L6.lineWords
    simp [Lib.join, Lib.joinTail, Im.tList, Im.tDef, L6.marked]
  unfold Im.pre
  rw [List.flatMap_append, List.flatMap_cons, List.flatMap_nil, List.append_nil, ← List.cons_append, Im.text_app, h, List.append_assoc]
theorem Im.src_text (ws : List Im.W) : L6.text (Im.src ws) = Im.pre ws ++ [104, 58, 32, 104, 101, 97, 100, 115, 10] := by
  unfold Im.src Im.pre
  rw [← List.cons_append, Im.text_app]
  rfl
theorem Im.wordT_len (x : Im.W) (hf : Im.Fine x) : (Im.wordT x).length ≤ 60 := by
  have h1 := Im.dec15 x.l (by have := hf.2.2.2; omega)
  have h2 := Im.dec15 x.fl hf.2.1
  have := hf.1
  unfold Im.wordT
  simp only [List.length_append, List.length_cons, List.length_nil]
  omega
theorem Im.nops_len (k : Nat) : (L6.text (List.replicate k Im.nop)).length = 4 * k := by
  induction k with
  | zero => rfl
  | succ k ih =>
    rw [← Im.nops_text, List.length_append, ih]
    rfl
theorem Im.pre_len : ∀ (ws : List Im.W), (∀ x ∈ ws, Im.Fine x) → (Im.pre ws).length ≤ 4 + 72 * ws.length := by
  intro ws
  induction hn : ws.length generalizing ws with
  | zero => intro _; rw [List.eq_nil_of_length_eq_zero hn]; exact Nat.le_refl _
  | succ k ih =>
    intro h
    rcases List.eq_nil_or_concat ws with rfl | ⟨A, x, rfl⟩
    · simp at hn
    · have h1 := ih A (by simpa using hn) fun y hy => h y (by simp [hy])
      have hf := h x (by simp)
      have h2 := Im.wordT_len x hf
      have h3 := hf.2.2.1
      rw [List.concat_eq_append, Im.pre_snoc, List.length_append, List.length_append, Im.nops_len]
      omega
theorem Im.raw_fine {r : Im.Raw} (h : r.name.length ≤ 31) : Im.Fine r.w := ⟨h, by show (r.f % 16).toNat ≤ 15; omega, by show (r.n % 4).toNat ≤ 3; omega, by show (r.l % 2).toNat ≤ 1; omega⟩
end Go.Proofs.YtpcpaoeajcjoiaaGreatDoor
/- Layer 10, the law's side: the source of words, written. -/
namespace Go.Proofs.YtpcpaoeajcjoiaaGreatDoor
open Go.RowKit Kit
set_option linter.unusedVariables false
set_option linter.unusedSimpArgs false

def Im.txtK (rs : List Im.Raw) (k : Nat) : List UInt8 := Im.pre ((rs.take k).map Im.Raw.w)
theorem Im.txtK_next {rs : List Im.Raw} {k : Nat} (hk : k < rs.length) : Im.txtK rs (k + 1) = (Im.txtK rs k ++ Im.wordT rs[k].w) ++ L6.text (List.replicate rs[k].w.n Im.nop) := by
  unfold Im.txtK
  rw [List.take_succ_eq_append_getElem hk, List.map_append, List.map_cons, List.map_nil, Im.pre_snoc]
theorem Im.str_cat7 (s d n f : List UInt8) : ((((((⟨s.toArray⟩ : ByteArray) ++ ⟨#[108, 105, 115, 116, 32]⟩) ++ ⟨d.toArray⟩) ++ ⟨#[10, 100, 101, 102, 32]⟩) ++ ⟨n.toArray⟩) ++ ⟨#[32]⟩) ++ ⟨f.toArray⟩ ++ ⟨#[10]⟩ = ⟨(s ++ ([108, 105, 115, 116, 32] ++ (d ++ ([10, 100, 101, 102, 32] ++ (n ++ ([32] ++ (f ++ [10]))))))).toArray⟩ := by
  have e1 : (⟨#[108, 105, 115, 116, 32]⟩ : ByteArray) = ⟨([108, 105, 115, 116, 32] : List UInt8).toArray⟩ := rfl
  have e2 : (⟨#[10, 100, 101, 102, 32]⟩ : ByteArray) = ⟨([10, 100, 101, 102, 32] : List UInt8).toArray⟩ := rfl
  have e3 : (⟨#[32]⟩ : ByteArray) = ⟨([32] : List UInt8).toArray⟩ := rfl
  have e4 : (⟨#[10]⟩ : ByteArray) = ⟨([10] : List UInt8).toArray⟩ := rfl
  rw [e1, e2, e3, e4, app_eq, app_eq, app_eq, app_eq, app_eq, app_eq, app_eq]
  simp only [List.append_assoc]
set_option maxRecDepth 100000 in
set_option maxHeartbeats 8000000 in
theorem isource10_any (v : Value) (rs : List Im.Raw) (w : World) (h : Rd w 4 v rs.length (Im.rowC rs)) (hn : rs.length ≤ 20) (hx : ∀ r ∈ rs, r.name.length ≤ 31) :
    Calls Tryz.prog 19 #[v] w fun e w' => e = .returned (.string ⟨(L6.text (Im.src (rs.map Im.Raw.w))).toArray⟩) ∧ Below w.heap.size w w' := by
  have HH := Lib.hid h
  have HX := Lib.hid hx
  have HN := Lib.hid hn
  have HFIN := Lib.hid (show L6.text (Im.src (rs.map Im.Raw.w)) = Im.txtK rs rs.length ++ [104, 58, 32, 104, 101, 97, 100, 115, 10] by
    rw [Im.src_text]; unfold Im.txtK; rw [List.take_length])
  have HLEN := Lib.hid (fun k => show (Im.txtK rs k).length ≤ 4 + 72 * 20 from by
    have h1 := Im.pre_len ((rs.take k).map Im.Raw.w) (fun x hx' => by
      obtain ⟨r, hr, rfl⟩ := List.mem_map.1 hx'
      exact Im.raw_fine (hx r (List.mem_of_mem_take hr)))
    have h2 : ((rs.take k).map Im.Raw.w).length ≤ rs.length := by rw [List.length_map, List.length_take]; omega
    show (Im.pre _).length ≤ _
    omega)
  obtain ⟨A, c, rfl⟩ := h.form
  clear h hx hn
  go_enter Tryz.func19, Tryz.ntmps19
  go_wp2_with fail
  go_loopw [3, 4] (fun s i wr => ∃ k : Nat, i = .int .i64 (k : Int) ∧ k ≤ rs.length ∧ s = .string ⟨(Im.txtK rs k).toArray⟩ ∧ Below w.heap.size w wr) (fun _ i _ => rs.length - (intOf i).toNat)
  case atStart => exact ⟨0, rfl, Nat.zero_le _, rfl, Below.refl _ _⟩
  case round =>
    obtain ⟨k, rfl, hk, rfl, hbr⟩ := hrel
    have HBR := Lib.hid hbr
    clear hbr
    by_cases hlt : k < rs.length
    · have hlt' : (k : Int) < (rs.length : Int) := by omega
      have hw1 : IntKind.i64.wrap ((k : Int) + 1) = (k : Int) + 1 := by have := HN.out; clear HH HX HLEN HFIN HBR; rw [IntKind.wrap_i64]; omega
      have HNX := Lib.hid (Im.txtK_next hlt)
      have HL1 := Lib.hid (HLEN.out k)
      have hnm := HX.out _ (List.getElem_mem hlt)
      have HWT := Lib.hid (Im.wordT_len rs[k].w (Im.raw_fine hnm))
      obtain ⟨g, off, c', e, hg, q0, q1, q2, q3⟩ := Im.row_rd (HH.out.kept HBR.out) hlt
      injection e with e1 e2 e3
      subst e1 e3
      have HWD := Lib.hid (show Im.wordT rs[k].w = [108, 105, 115, 116, 32] ++ (Lib.decDigits rs[k].w.l ++ ([10, 100, 101, 102, 32] ++ (rs[k].name ++ ([32] ++ (Lib.decDigits rs[k].w.fl ++ [10]))))) from rfl)
      obtain ⟨al, bl, ml, hl1, hl2, hl3, hl4, hl5, hl6, hl7⟩ := Im.mod2 rs[k].l
      obtain ⟨af, bf, mf, hf1, hf2, hf3, hf4, hf5, hf6, hf7⟩ := Im.mod16 rs[k].f
      obtain ⟨an, bn, mn, hn1, hn2, hn3, hn4, hn5, hn6, hn7⟩ := Im.mod4 rs[k].n
      have gl : rs[k].w.l = ml := hl6.symm
      have gf : rs[k].w.fl = mf := hf6.symm
      have gn : rs[k].w.n = mn := hn6.symm
      rw [gl, gf] at HWD
      rw [gn] at HNX
      have d1 := (Im.dec15 ml (by omega)).2
      have d2 := (Im.dec15 mf (by omega)).2
      have CL := Lib.hid (fun W => idigits_nat ml W (by omega))
      have CF := Lib.hid (fun W => idigits_nat mf W (by omega))
      generalize Lib.decDigits ml = dl at *
      generalize Lib.decDigits mf = df at *
      generalize Im.wordT rs[k].w = wt at *
      clear hl6 hf6 hn6 gl gf gn
      obtain ⟨nm, hnm2⟩ : ∃ a, rs[k].name = a := ⟨_, rfl⟩
      rw [hnm2] at q0 hnm HWD
      obtain ⟨fk, hfk⟩ : ∃ a, rs[k].f = a := ⟨_, rfl⟩
      rw [hfk] at q1 hf1
      obtain ⟨nk, hnk⟩ : ∃ a, rs[k].n = a := ⟨_, rfl⟩
      rw [hnk] at q2 hn1
      obtain ⟨lk, hlk⟩ : ∃ a, rs[k].l = a := ⟨_, rfl⟩
      rw [hlk] at q3 hl1
      have HQ := Lib.hid (show ∀ W', Below wr.heap.size wr W' → W'.cell? ⟨g, off + k * 4, none⟩ = some (.string ⟨nm.toArray⟩) ∧ W'.cell? ⟨g, off + k * 4 + 1, none⟩ = some (.int .i64 fk) ∧ W'.cell? ⟨g, off + k * 4 + 2, none⟩ = some (.int .i64 nk) ∧ W'.cell? ⟨g, off + k * 4 + 3, none⟩ = some (.int .i64 lk) from fun W' hb => ⟨(hb.cell (p := ⟨g, _, none⟩) hg).trans q0, (hb.cell (p := ⟨g, _, none⟩) hg).trans q1, (hb.cell (p := ⟨g, _, none⟩) hg).trans q2, (hb.cell (p := ⟨g, _, none⟩) hg).trans q3⟩)
      clear hnm2 hfk hnk hlk
      have HTK := Lib.hid (show ∃ T, T = Im.txtK rs (k + 1) from ⟨_, rfl⟩)
      obtain ⟨T, hT⟩ := HTK.out
      rw [← hT] at HNX
      have HT := Lib.hid hT
      clear hT
      generalize Im.txtK rs k = tk at *
      have g1 : ¬ 9223372036854775807 < tk.length + 5 := by have := HL1.out; omega
      have g2 : ¬ 9223372036854775807 < tk.length + 5 + dl.length := by have := HL1.out; omega
      have g3 : ¬ 9223372036854775807 < tk.length + 5 + dl.length + 5 := by have := HL1.out; omega
      have g4 : ¬ 9223372036854775807 < tk.length + 5 + dl.length + 5 + nm.length := by have := HL1.out; omega
      have g5 : ¬ 9223372036854775807 < tk.length + 5 + dl.length + 5 + nm.length + 1 := by have := HL1.out; omega
      have g6 : ¬ 9223372036854775807 < tk.length + 5 + dl.length + 5 + nm.length + 1 + df.length := by have := HL1.out; omega
      have g7 : ¬ 9223372036854775807 < tk.length + 5 + dl.length + 5 + nm.length + 1 + df.length + 1 := by have := HL1.out; omega
      go_wp2_with fail
      refine Kit.wp_region_class (fun W' => Below wr.heap.size wr W') (by kernel_rfl) (by kernel_rfl) ((Below.refl _ _).drew) ?_
      repeat (first | go_big_quiet_skip | (refine BigFrame.wpQuiet_want (by rfl) (fun K hK => ?_); first | ((fail_if_success (fail_if_success (first | (refine BigFrame.quiet_move _ rfl ?_) | (refine BigFrame.quiet_assign _ rfl ?_)))); go_big_quiet_op; refine hK _ ?_; clear hK K) | (apply Exists.intro; refine ⟨fun W' hW' => ?_, hK _ ?_⟩; (obtain ⟨k0, k1, k2, k3⟩ := HQ.out W' hW'; unfold Oper.quietAt; go_simp; (first | done | (with_reducible rfl) | (exact ⟨rfl, rfl⟩) | (first | (go_at_call 55; with_reducible exact callB (CL.out _) hW' (Nat.le_refl _)) | (go_at_call 55; with_reducible exact callB (CF.out _) hW' (Nat.le_refl _)) | (refine ⟨rfl, ?_⟩; (first | (go_at_call 55; with_reducible exact callB (CL.out _) hW' (Nat.le_refl _)) | (go_at_call 55; with_reducible exact callB (CF.out _) hW' (Nat.le_refl _))))))); clear hK K; (try simp only [Act.put, List.getElem_toArray, List.getElem_cons_zero, List.getElem_cons_succ, List.setIfInBounds_toArray, List.set_cons_zero, List.set_cons_succ]))))
      refine wpQuiet_nil ?_
      intro w2 hb2
      rw [Im.str_cat7, ← HWD.out]
      have HB2 := Lib.hid hb2
      clear hb2 g1 g2 g3 g4 g5 g6 g7 hl1 hl2 hl3 hl4 hl5 hf1 hf2 hf3 hf4 hf5 d1 d2 q0 q1 q2 q3
      go_wp2_with fail
      go_loopw [3, 5] (fun s i wy => ∃ m : Nat, i = .int .i64 (m : Int) ∧ m ≤ mn ∧ s = .string ⟨((tk ++ wt) ++ L6.text (List.replicate m Im.nop)).toArray⟩ ∧ Below wr.heap.size wr wy) (fun _ i _ => mn - (intOf i).toNat)
      case atStart => exact ⟨0, rfl, Nat.zero_le _, by simp [L6.text], HB2.out⟩
      case round =>
        obtain ⟨m, rfl, hm, rfl, hby⟩ := hrel
        obtain ⟨k0, k1, k2, k3⟩ := HQ.out _ hby
        have HBY := Lib.hid hby
        have HNL := Lib.hid (Im.nops_len m)
        clear hby k0 k1 k3
        have HNT := Lib.hid (Im.nops_text m)
        by_cases hlm : m < mn
        · have hlm' : (m : Int) < (mn : Int) := by omega
          have hw2 : IntKind.i64.wrap ((m : Int) + 1) = (m : Int) + 1 := by clear HNX HT HBY HNT HQ; rw [IntKind.wrap_i64]; omega
          have HL2 := Lib.hid (show ((tk ++ wt) ++ L6.text (List.replicate m Im.nop)).length ≤ 4000 by
            have h1 := HL1.out
            have h2 := HWT.out
            rw [List.length_append, List.length_append, HNL.out]
            omega)
          have HS := Lib.hid (show ((tk ++ wt) ++ L6.text (List.replicate m Im.nop)) ++ [110, 111, 112, 10] = (tk ++ wt) ++ L6.text (List.replicate (m + 1) Im.nop) by rw [List.append_assoc, HNT.out])
          generalize ((tk ++ wt) ++ L6.text (List.replicate m Im.nop)) = tm at *
          have g1 : ¬ 9223372036854775807 < tm.length + 4 := by have := HL2.out; omega
          go_wp2_with fail
          go_roundw
          case rel => exact ⟨m + 1, by go_num, by omega, by rw [← HS.out]; exact congrArg Value.string (app_eq tm [110, 111, 112, 10]), HBY.out⟩
          case measure => simp [intOf]; omega
        · obtain rfl : m = mn := by omega
          have HB3 := Lib.hid (HBR.out.trans (HBY.out.mono HBR.out.size))
          have HTE := Lib.hid (show ((tk ++ wt) ++ L6.text (List.replicate m Im.nop)) = Im.txtK rs (k + 1) by rw [← HNX.out, HT.out])
          generalize ((tk ++ wt) ++ L6.text (List.replicate m Im.nop)) = tm at *
          go_wp2_with fail
          go_roundw
          case rel => exact ⟨k + 1, by go_num, by omega, by rw [HTE.out], HB3.out⟩
          case measure => simp [intOf]; omega
    · obtain rfl : k = rs.length := by omega
      have HL1 := Lib.hid (HLEN.out rs.length)
      generalize Im.txtK rs rs.length = tk at *
      have g1 : ¬ 9223372036854775807 < tk.length + 9 := by have := HL1.out; omega
      go_wp2_with fail
      go_ret
      rw [HFIN.out]
      exact ⟨congrArg (fun x => Ending.returned (.string x)) (app_eq tk [104, 58, 32, 104, 101, 97, 100, 115, 10]), HBR.out⟩
end Go.Proofs.YtpcpaoeajcjoiaaGreatDoor
/- Layer 10, the law's side: what must come. -/
namespace Go.Proofs.YtpcpaoeajcjoiaaGreatDoor
open Go.RowKit Kit
set_option linter.unusedVariables false
set_option linter.unusedSimpArgs false

def Im.knS : List UInt8 := [100, 101, 102, 32, 65, 32, 49, 10, 114, 101, 116, 10, 104, 58, 32, 104, 101, 97, 100, 115]
def Im.knL : List L6.Line := [⟨[], Im.tDef, [[65], [49]]⟩, ⟨[], As.tRet, []⟩, ⟨[[104]], Im.tHeads, []⟩]
def Im.stOf : Im.R → Im.St
  | .ok S => S
  | .bad _ => Im.start
def Im.knM : Im.St := Im.stOf (Im.run Im.start Im.knL)
def Im.knP : List L6.Line := Im.fill (Im.end_ Im.knM)
theorem Im.kn_parse : L6.parse Im.knS = (Im.knL, 0, 0) := by decide +kernel
theorem Im.kn_run : Im.run Im.start Im.knL = .ok Im.knM := by kernel_rfl
theorem Im.kn_plain : F8.plain Im.knP = (Im.knP, 0, 0) := by kernel_rfl
theorem Im.kn_len : Im.knP.length ≤ 1000 := by decide +kernel
theorem Im.kn_fit : ∀ x ∈ Im.knP, x.labels.length ≤ 100 ∧ x.args.length ≤ 100 ∧ (∀ s ∈ x.labels, s.length ≤ 100) ∧ (∀ s ∈ x.args, s.length ≤ 100) := by decide +kernel
theorem Im.kn_lok : ∀ x ∈ Im.knL, (x.labels.length ≤ 100 ∧ x.args.length ≤ 100) ∧ ∀ a ∈ x.args, a.length ≤ 100 := by decide +kernel
def Im.knO : As.O := As.assemble Im.knP 0
theorem Im.kn_err : Im.knO.err = 0 := by kernel_rfl
theorem Im.kn_bytes : Im.knO.bytes.length = 152 ∧ Im.knO.bytes.getD 44 0 = 0 ∧ Im.knO.bytes.getD 4 0 = 20 := by decide +kernel
theorem Im.kn_syms : Im.knO.syms.length ≤ 1000 ∧ As.look Im.knO.syms [61, 48, 65] = some 20 ∧ As.look Im.knO.syms [104] = some 24 := by decide +kernel
theorem iknb_any {w : World} (hT : L6.Tab w) : Calls Tryz.prog 18 #[.string ⟨Im.knS.toArray⟩, .int .u32 0] w (Im.BPost w (Im.ofA Im.knO)) :=
  ibuild_any Im.knS 0 Im.knL Im.knP Im.knM hT (by decide) Im.kn_parse Im.kn_run (by decide) (fun x hx => by
    obtain ⟨⟨h1, h2⟩, h3⟩ := Im.kn_lok x hx
    exact ⟨⟨by omega, by omega⟩, fun a ha => Nat.le_trans (h3 a ha) (by decide)⟩) Im.kn_plain (fun x hx => by
    obtain ⟨h1, h2, h3, h4⟩ := Im.kn_fit x hx
    exact ⟨by omega, by omega, fun s hs => Nat.le_trans (h3 s hs) (by decide)⟩) (Nat.le_trans Im.kn_len (by decide)) (fun x hx => by
    obtain ⟨h1, h2, h3, h4⟩ := Im.kn_fit x hx
    exact ⟨by omega, by omega, fun s hs => Nat.le_trans (h3 s hs) (by decide), fun s hs => Nat.le_trans (h4 s hs) (by decide)⟩) (by decide)
theorem Im.rd_byte {w : World} {v : Value} {b : List UInt8} (h : Rd w 1 v b.length (bv b)) {j : Nat} (hj : j < b.length) : ∃ g off c, v = .slice (some ⟨g, off, none⟩) b.length c ∧ g < w.heap.size ∧ w.cell? ⟨g, off + j, none⟩ = some (.int .u8 (b.getD j 0).toNat) := by
  obtain ⟨hl, A, c, rfl, h2, h3, h4⟩ := h
  obtain ⟨g, off, rfl, hg, hc⟩ := h4 (by omega)
  refine ⟨g, off, c, rfl, hg, hc j _ ?_⟩
  unfold bv
  rw [List.getElem?_map, List.getD_eq_getElem?_getD, List.getElem?_eq_getElem hj]
  rfl
set_option maxRecDepth 100000 in
set_option maxHeartbeats 4000000 in
theorem iknows10_any (w : World) (hT : L6.Tab w) : Calls Tryz.prog 16 #[] w fun e w' => e = .returned (.bool true) ∧ Below w.heap.size w w' := by
  have CB := iknb_any hT
  have e0 : Im.ofA Im.knO = ⟨Im.knO.bytes, Im.knO.syms, 0⟩ := by unfold Im.ofA; rw [if_pos Im.kn_err]
  obtain ⟨f1, f2, f3⟩ := Im.kn_bytes
  obtain ⟨f4, f5, f6⟩ := Im.kn_syms
  rw [e0] at CB
  generalize Im.knO = O at *
  have CB := Lib.hid CB
  have CL := Lib.hid (fun W => ilabel_any 1 [88] W (by decide) (by decide))
  have F5 := Lib.hid f5
  have F6 := Lib.hid f6
  have F4 := Lib.hid f4
  have F1 := Lib.hid f1
  have F2 := Lib.hid f2
  have F3 := Lib.hid f3
  have hlab : (⟨(Im.label 1 [88]).toArray⟩ : ByteArray) = ⟨#[61, 49, 88]⟩ := by decide +kernel
  clear e0 hT f1 f2 f3 f4 f5 f6
  go_enter Tryz.func16, Tryz.ntmps16
  go_wp2_with fail
  go_at_call 18
  refine CB.out.mono ?_
  rintro e w2 ⟨vb, vs, rfl, hrb, hrs, hfb, hfs, hb2⟩
  dsimp only at hrb hrs ⊢
  have HB2 := Lib.hid hb2
  have HRB := Lib.hid hrb
  have HRS := Lib.hid hrs
  obtain ⟨g, off, cb, e1, hg, c44⟩ := Im.rd_byte hrb (j := 44) (by rw [F1.out]; decide)
  obtain ⟨g', off', cb', e2, hg', c4⟩ := Im.rd_byte hrb (j := 4) (by rw [F1.out]; decide)
  rw [e1] at e2
  injection e2 with e2 _ e3
  injection e2 with e2
  injection e2 with e2 e4 _
  subst e1 e2 e3 e4
  rw [F2.out] at c44
  rw [F3.out] at c4
  rw [F1.out] at HRB
  obtain ⟨As_, cs, rfl⟩ := hrs.form
  clear hrb hrs hfb hfs hb2 hg'
  have hal : Below w2.heap.size w2 (w2.alloc (.cells #[.slice (some ⟨g, off, none⟩) O.bytes.length cb, .slice As_ O.syms.length cs] 45)) := (Below.refl _ _).alloc (Nat.le_refl _) _
  have hbk := Bk.fresh w2 45 #[.slice (some ⟨g, off, none⟩) O.bytes.length cb, .slice As_ O.syms.length cs]
  rw [F1.out] at hal hbk ⊢
  obtain ⟨w3, hw3⟩ : ∃ w3, w2.alloc (.cells #[.slice (some ⟨g, off, none⟩) 152 cb, .slice As_ O.syms.length cs] 45) = w3 := ⟨_, rfl⟩
  rw [hw3] at hal hbk
  have x0 := hbk.cell 0
  have x1 := hbk.cell 1
  have CA := Lib.hid (fun W (hW : Below w3.heap.size w3 W) s => iat_any (.slice (some ⟨g, off, none⟩) 152 cb) (.slice As_ O.syms.length cs) O.syms s W ((HRS.out.kept hal).kept hW) (Nat.le_trans F4.out (by decide)))
  have HB3 := Lib.hid (HB2.out.trans (hal.mono HB2.out.size))
  have HBK := Lib.hid hbk
  have C44 := Lib.hid (show ∀ W, Below w3.heap.size w3 W → W.cell? ⟨g, off + 44, none⟩ = some (.int .u8 0) ∧ W.cell? ⟨g, off + 4, none⟩ = some (.int .u8 20) from fun W hb => ⟨(hb.cell (p := ⟨g, _, none⟩) (Nat.lt_of_lt_of_le hg hal.size)).trans ((hal.cell (p := ⟨g, _, none⟩) hg).trans c44), (hb.cell (p := ⟨g, _, none⟩) (Nat.lt_of_lt_of_le hg hal.size)).trans ((hal.cell (p := ⟨g, _, none⟩) hg).trans c4)⟩)
  clear hal hbk c44 c4 hg
  go_wp2_with fail
  go_at_call 20
  refine (CA.out _ (Below.refl _ _) [61, 48, 65]).mono ?_
  rintro e w4 ⟨rfl, hb4⟩
  rw [F5.out]
  have HB4 := Lib.hid hb4
  have HK4 := Lib.hid (HBK.out.kept hb4)
  have y0 := HK4.out.cell 0
  have y1 := HK4.out.cell 1
  clear hb4 x0 x1
  dsimp only [Option.getD_some, Option.isSome_some]
  go_wp2_with fail
  go_at_call 20
  refine (CA.out _ HB4.out [104]).mono ?_
  rintro e w5 ⟨rfl, hb5⟩
  rw [F6.out]
  have HB5 := Lib.hid (HB4.out.trans (hb5.mono HB4.out.size))
  have hk5 := HK4.out.kept hb5
  have z0 := hk5.cell 0
  have z1 := hk5.cell 1
  obtain ⟨q44, q4⟩ := C44.out _ HB5.out
  clear hb5 y0 y1 hk5
  dsimp only [Option.getD_some, Option.isSome_some]
  go_wp2_with (first | (go_at_call 21; refine (inum10_any _ _).mono ?_; rintro e w' ⟨rfl, rfl⟩) | (go_at_call 25; refine (CL.out _).mono ?_; rintro e w6 ⟨rfl, hb6⟩))
  go_ret
  exact ⟨rfl, HB3.out.trans ((HB5.out.trans (hb6.mono HB5.out.size)).mono HB3.out.size)⟩
end Go.Proofs.YtpcpaoeajcjoiaaGreatDoor
/- Layer 10: the image of words that may be: it is built, or two words are alike. -/
namespace Go.Proofs.YtpcpaoeajcjoiaaGreatDoor
open Go.RowKit Kit
set_option linter.unusedVariables false
set_option linter.unusedSimpArgs false

theorem Im.kinds_none : F8.kind ([] : List UInt8) = none ∧ F8.kind As.tAlign = none ∧ F8.kind As.tWord = none ∧ F8.kind As.tSpan = none ∧ F8.kind As.tByte = none ∧ F8.kind As.tNop = none := by decide
theorem Im.lens : ([] : List UInt8).length ≤ 10 ∧ As.tAlign.length ≤ 10 ∧ As.tWord.length ≤ 10 ∧ As.tSpan.length ≤ 10 ∧ As.tByte.length ≤ 10 ∧ As.tNop.length ≤ 10 := by decide
theorem Im.dec_len1 (n : Nat) (h : n ≤ 1) : (Lib.decDigits n).length ≤ 2 := (Im.dec15 n (by omega)).2
theorem Im.own_len (x : Im.W) (h : Im.Fine x) : (Im.own x).length ≤ 34 := by
  have := Im.dec_len1 x.l h.2.2.2
  have := h.1
  unfold Im.own Im.label
  simp only [List.length_cons, List.length_append]
  omega
theorem Im.hd_len (x : Im.W) (h : Im.Fine x) : (Im.hd x).length ≤ 34 := by
  have := Im.dec_len1 x.l h.2.2.2
  have := h.1
  unfold Im.hd Im.head
  simp only [List.length_cons, List.length_append]
  omega
theorem Im.lineOk {ls : List (List UInt8)} {wd : List UInt8} {ar : List (List UInt8)} (h1 : F8.kind wd = none) (h2 : wd.length ≤ 10) (h3 : ls = [] ∨ ∃ s, ls = [s] ∧ s.length ≤ 36 ∧ F8.made s = false) (h4 : ar.length ≤ 40) (h5 : ∀ s ∈ ar, s.length ≤ 40) : Im.LineOk ⟨ls, wd, ar⟩ := by
  rcases h3 with rfl | ⟨s, rfl, h6, h7⟩
  · exact ⟨h1, rfl, by simp, h4, fun s hs => (by cases hs), h5, h2⟩
  · exact ⟨h1, by simp [h7], by simp, h4, fun t ht => by rw [List.mem_singleton.1 ht]; omega, h5, h2⟩
theorem Im.mark_made {s : List UInt8} (h : Im.Mark s) : F8.made s = false := by
  obtain ⟨c, t, rfl, hc⟩ := h
  unfold F8.made
  rcases hc with rfl | rfl <;> rfl
theorem Im.mark_one {s : List UInt8} (h : Im.Mark s) (hl : s.length ≤ 36) : [s] = [] ∨ ∃ t, [s] = [t] ∧ t.length ≤ 36 ∧ F8.made t = false := .inr ⟨s, rfl, hl, Im.mark_made h⟩
def Im.AllOk (B : Im.Bl) : Prop := ∀ p ∈ B, Im.LineOk p.1
theorem Im.AllOk.app {A B : Im.Bl} (h1 : Im.AllOk A) (h2 : Im.AllOk B) : Im.AllOk (A ++ B) := fun p hp => (List.mem_append.1 hp).elim (h1 p) (h2 p)
theorem Im.ends_ok {prev : List UInt8} (h : prev = [] ∨ (Im.Mark prev ∧ prev.length ≤ 34)) : Im.AllOk (Im.ends prev) := fun p hp => by
  unfold Im.ends at hp
  split at hp
  · cases hp
  · rename_i hne
    rw [List.mem_singleton.1 hp]
    rcases h with h | ⟨hm, hl⟩
    · exact absurd h hne
    · exact Im.lineOk Im.kinds_none.1 Im.lens.1 (Im.mark_one (Im.mark_end hm) (by rw [List.length_append, List.length_singleton]; omega)) (by simp) (fun s hs => by cases hs)
theorem Im.either_len {s : List UInt8} (h : s.length ≤ 34) : (Im.either s).length ≤ 40 := by
  unfold Im.either
  split
  · decide
  · omega
theorem Im.dec255 (n : Nat) (h : n ≤ 255) : (Lib.decDigits n).length ≤ 4 := by
  have : ∀ i : Fin 256, (Lib.decDigits i.val).length ≤ 4 := by decide +kernel
  exact this ⟨n, by omega⟩
theorem Im.layW_ok {pos : Nat} {prev link : List UInt8} {la : Nat} {x : Im.W} (h : Im.Fine x) (hp : prev = [] ∨ (Im.Mark prev ∧ prev.length ≤ 34)) (hl : link.length ≤ 34) : Im.AllOk (Im.layW pos prev link la x) := by
  have ho := Im.own_len x h
  have hh := Im.hd_len x h
  unfold Im.layW
  intro p hp'
  rcases List.mem_cons.1 hp' with rfl | hp'
  · exact Im.lineOk Im.kinds_none.1 Im.lens.1 (.inl rfl) (by simp) (fun s hs => by cases hs)
  rcases List.mem_append.1 hp' with hp' | hp'
  · exact Im.ends_ok hp p hp'
  rcases List.mem_append.1 hp' with hp' | hp'
  · unfold Im.body at hp'
    simp only [List.mem_cons, List.not_mem_nil, or_false] at hp'
    rcases hp' with rfl | rfl | rfl | rfl | rfl | rfl | rfl | rfl
    · exact Im.lineOk Im.kinds_none.2.1 Im.lens.2.1 (.inl rfl) (by simp) (fun s hs => by cases hs)
    · exact Im.lineOk Im.kinds_none.2.2.1 Im.lens.2.2.1 (Im.mark_one (Im.hd_mark x) (by omega)) (by simp) (fun s hs => by rw [List.mem_singleton.1 hs]; exact Im.either_len hl)
    · exact Im.lineOk Im.kinds_none.2.2.1 Im.lens.2.2.1 (.inl rfl) (by simp) (fun s hs => by rw [List.mem_singleton.1 hs]; omega)
    · refine Im.lineOk Im.kinds_none.2.2.2.1 Im.lens.2.2.2.1 (.inl rfl) (by simp) (fun s hs => ?_)
      simp only [List.mem_cons, List.not_mem_nil, or_false] at hs
      rcases hs with rfl | rfl
      · omega
      · rw [List.length_append, List.length_singleton]; omega
    · refine Im.lineOk Im.kinds_none.2.2.2.2.1 Im.lens.2.2.2.2.1 (.inl rfl) (by rw [List.length_map, Im.ns_len]; have := h.1; omega) (fun s hs => ?_)
      obtain ⟨n, hn, rfl⟩ := List.mem_map.1 hs
      have := Im.dec255 n (h.ns n hn)
      omega
    · exact Im.lineOk Im.kinds_none.2.1 Im.lens.2.1 (.inl rfl) (by simp) (fun s hs => by cases hs)
    · exact Im.lineOk Im.kinds_none.2.2.1 Im.lens.2.2.1 (.inl rfl) (by simp) (fun s hs => by rw [List.mem_singleton.1 hs]; omega)
    · exact Im.lineOk Im.kinds_none.1 Im.lens.1 (Im.mark_one (Im.own_mark x) (by omega)) (by simp) (fun s hs => by cases hs)
  · rw [(List.mem_replicate.1 hp').2]
    exact Im.lineOk Im.kinds_none.2.2.2.2.2 Im.lens.2.2.2.2.2 (.inl rfl) (by simp) (fun s hs => by cases hs)
theorem Im.layL_ok : ∀ (ws : List Im.W) (pos : Nat) (prev : List UInt8) (last : List (List UInt8)) (la : List Nat), (∀ x ∈ ws, Im.Fine x) → (prev = [] ∨ (Im.Mark prev ∧ prev.length ≤ 34)) → (∀ k, (last.getD k []).length ≤ 34) → Im.AllOk (Im.layL pos prev last la ws)
  | [], pos, prev, last, la, _, hp, hl => by
    unfold Im.layL
    refine (Im.ends_ok hp).app fun p hp => ?_
    unfold Im.slots at hp
    obtain ⟨k, _, rfl⟩ := List.mem_map.1 hp
    refine Im.lineOk Im.kinds_none.2.2.1 Im.lens.2.2.1 ?_ (by simp) (fun s hs => by rw [List.mem_singleton.1 hs]; exact Im.either_len (hl k))
    split
    · exact .inr ⟨[104], rfl, by decide, rfl⟩
    · exact .inl rfl
  | x :: r, pos, prev, last, la, hx, hp, hl => by
    unfold Im.layL
    have hf := hx x (by simp)
    refine (Im.layW_ok hf hp (hl _)).app (Im.layL_ok r _ _ _ _ (fun y hy => hx y (by simp [hy])) (.inr ⟨Im.own_mark x, Im.own_len x hf⟩) fun k => ?_)
    rw [Im.getD_set]
    split
    · exact Im.hd_len x hf
    · exact hl k
theorem Im.lay_ok (ws : List Im.W) (hx : ∀ x ∈ ws, Im.Fine x) : Im.AllOk (Im.lay ws) := by
  unfold Im.lay
  intro p hp
  rcases List.mem_cons.1 hp with rfl | hp
  · exact Im.lineOk Im.kinds_none.2.2.2.2.2 Im.lens.2.2.2.2.2 (.inl rfl) (by simp) (fun s hs => by cases hs)
  · refine Im.layL_ok ws 4 [] _ _ hx (.inl rfl) (fun k => ?_) p hp
    rw [List.getD_eq_getElem?_getD, List.getElem?_replicate]
    split <;> simp
theorem Im.layL_cnt : ∀ (ws : List Im.W) (pos : Nat) (prev : List UInt8) (last : List (List UInt8)) (la : List Nat), (∀ x ∈ ws, Im.Fine x) → (Im.layL pos prev last la ws).length ≤ 33 + 13 * ws.length := by
  have he : ∀ prev : List UInt8, (Im.ends prev).length ≤ 1 := fun prev => by unfold Im.ends; split <;> simp
  intro ws
  induction ws with
  | nil =>
    intro pos prev last la _
    have := he prev
    unfold Im.layL Im.slots
    rw [List.length_append, List.length_map, List.length_range, List.length_nil]
    omega
  | cons x r ih =>
    intro pos prev last la hx
    have h1 := ih (pos + Im.wsz x) (Im.own x) (last.set (Im.key x) (Im.hd x)) (la.set (Im.key x) pos) fun y hy => hx y (by simp [hy])
    have h2 := he prev
    have h3 := (hx x (by simp)).2.2.1
    unfold Im.layL Im.layW Im.body
    simp only [List.length_append, List.length_cons, List.length_replicate, List.length_nil]
    omega
theorem Im.lay_cnt (ws : List Im.W) (hx : ∀ x ∈ ws, Im.Fine x) : (Im.lay ws).length ≤ 34 + 13 * ws.length := by
  have := Im.layL_cnt ws 4 [] (List.replicate 32 []) (List.replicate 32 0) hx
  unfold Im.lay
  rw [List.length_cons]
  omega
theorem Im.src_lok (ws : List Im.W) (h : ∀ x ∈ ws, Im.Ok x) : ∀ y ∈ Im.src ws, Im.LOk y := by
  have hd : ∀ n, n ≤ 15 → (Lib.decDigits n).length ≤ maxLen := fun n hn => Nat.le_trans (Im.dec15 n hn).2 (by decide)
  intro y hy
  unfold Im.src at hy
  rcases List.mem_cons.1 hy with rfl | hy
  · exact ⟨by decide, fun a ha => by cases ha⟩
  rcases List.mem_append.1 hy with hy | hy
  · obtain ⟨x, hx, hy⟩ := List.mem_flatMap.1 hy
    obtain ⟨f1, f2, f3, f4⟩ := (h x hx).fine
    unfold Im.srcW at hy
    rcases List.mem_cons.1 hy with rfl | hy
    · exact ⟨by simp, fun a ha => by rw [List.mem_singleton.1 ha]; exact hd _ (by omega)⟩
    rcases List.mem_cons.1 hy with rfl | hy
    · refine ⟨by simp, fun a ha => ?_⟩
      simp only [List.mem_cons, List.not_mem_nil, or_false] at ha
      rcases ha with rfl | rfl
      · exact Nat.le_trans f1 (by decide)
      · exact hd _ f2
    · rw [(List.mem_replicate.1 hy).2]; exact ⟨by decide, fun a ha => by cases ha⟩
  · rw [List.mem_singleton.1 hy]; exact ⟨by decide, fun a ha => by cases ha⟩
/-- What comes of the source of words. -/
def Im.chO (ws : List Im.W) : Im.O := Im.ofA (As.assemble ((Im.lay ws).map fun p => p.1) 0)
theorem ichain_build {w : World} (hT : L6.Tab w) (ws : List Im.W) (h : ∀ x ∈ ws, Im.Ok x) (hn : ws.length ≤ 20) : Calls Tryz.prog 18 #[.string ⟨(L6.text (Im.src ws)).toArray⟩, .int .u32 0] w (Im.BPost w (Im.chO ws)) := by
  obtain ⟨S, hr, ho, hf⟩ := Im.run_src ws fun x hx => ⟨(h x hx).right, (h x hx).fine⟩
  have hfine : ∀ x ∈ ws, Im.Fine x := fun x hx => (h x hx).fine
  have he : Im.end_ S = S := by unfold Im.end_; rw [if_pos ho]
  have hall : ∀ x ∈ (Im.lay ws).map (fun p => p.1), Im.LineOk x := fun x hx => by
    obtain ⟨p, hp, rfl⟩ := List.mem_map.1 hx
    exact Im.lay_ok ws hfine p hp
  have hcnt := Im.lay_cnt ws hfine
  have hsl : (L6.text (Im.src ws)).length ≤ 1000000000 := by
    have := Im.pre_len ws hfine
    rw [Im.src_text, List.length_append]
    simp only [List.length_cons, List.length_nil]
    omega
  have hpar := Im.src_parse ws h (by omega)
  have hsrc := Im.src_len ws fun x hx => (hfine x hx).2.2.1
  have hlok := Im.src_lok ws h
  have hcl : (Im.fill (Im.end_ S)).length ≤ 1000000000 := by rw [he, hf, List.length_map]; omega
  unfold Im.chO
  rw [← hf, ← he] at hall ⊢
  generalize L6.text (Im.src ws) = sx at *
  generalize Im.src ws = lx at *
  clear hf he
  refine ibuild_any sx 0 lx (Im.fill (Im.end_ S)) S hT hsl hpar hr (by omega) hlok ?_ ?_ ?_ ?_ (by decide)
  · exact F8.plain_bare _ fun x hx => ⟨(hall x hx).kind, (hall x hx).made⟩
  · intro x hx
    have := hall x hx
    exact ⟨Nat.le_trans this.labels (by decide), Nat.le_trans this.args (by decide), fun s hs => Nat.le_trans (this.ls s hs) (by decide)⟩
  · exact hcl
  · intro x hx
    have := hall x hx
    exact ⟨Nat.le_trans this.labels (by decide), Nat.le_trans this.args (by decide), fun s hs => Nat.le_trans (this.ls s hs) (by decide), fun s hs => Nat.le_trans (this.ars s hs) (by decide)⟩
theorem Im.chO_eq (ws : List Im.W) (h : ∀ x ∈ ws, Im.Fine x) (hn : ws.length ≤ 20) : Im.chO ws = ⟨[], [], 42⟩ ∨ ((As.keys (Im.symL 4 [] ws)).Nodup ∧ Im.chO ws = ⟨Im.img ws, Im.symL 4 [] ws, 0⟩) := by
  have h1 := Im.lay_cnt ws h
  have h2 := Im.szs_le ws h
  rcases Im.lay_assemble ws h (by omega) (by omega) with ⟨n, e⟩ | ⟨hk, e⟩
  · left
    unfold Im.chO
    rw [e]
    rfl
  · right
    refine ⟨hk, ?_⟩
    unfold Im.chO
    rw [e]
    rfl
/-- What the law asks of a name. -/
def Im.named (s : List UInt8) : Bool := Nm.right s && (!(s.headD 0 == 34) && !(L6.note s))
theorem Im.named_whole {s : List UInt8} (h : Im.named s = true) : Nm.right s = true ∧ L6.whole s = true ∧ s.length ≤ 31 := by
  unfold Im.named at h
  simp only [Bool.and_eq_true, Bool.not_eq_true', beq_eq_false_iff_ne] at h
  obtain ⟨h1, h2, h3⟩ := h
  have h4 := h1
  unfold Nm.right at h4
  simp only [Bool.and_eq_true, Bool.not_eq_true', decide_eq_true_eq] at h4
  obtain ⟨h5, h6, h7⟩ := h4
  have hc : ∀ c ∈ s, 33 ≤ c.toNat := fun c hc => by
    have := List.all_eq_true.1 h5 c hc
    unfold Nm.okc at this
    simp only [Bool.and_eq_true, decide_eq_true_eq] at this
    exact this.1
  have hno : ∀ c ∈ s, ∀ d : UInt8, d.toNat < 33 → c ≠ d := fun c hcs d hd e => by
    have := hc c hcs
    rw [e] at this
    omega
  refine ⟨h1, L6.free_whole ?_ ?_ ?_ h2 h3, h7⟩
  · intro e; subst e; cases h6
  · intro c hcs
    unfold L6.blank
    have a := hno c hcs 32 (by decide)
    have b := hno c hcs 9 (by decide)
    simp [a, b]
  · intro h10
    exact hno 10 h10 10 (by decide) rfl
theorem Im.raw_ok {r : Im.Raw} (h : Im.named r.name = true) : Im.Ok r.w := by
  obtain ⟨h1, h2, h3⟩ := Im.named_whole h
  exact ⟨h1, h2, Im.raw_fine h3⟩
end Go.Proofs.YtpcpaoeajcjoiaaGreatDoor
