/- A port of the program's: what it is in memory; walks of none, In, Left. -/
import Derived.Test.YtfffkfcemajcpaaRows
import Derived.Test.YtfffkfcemajcpaaKitR
import Derived.Test.YtfffkfcemajcpaaKitC
import Derived.Conc.LoneSelectN
import Derived.StillTailTactics
import Derived.BigQuiet
import Derived.Deep.DeepCutAuto
import Derived.Outline
namespace Go.Proofs.Ytfffkfcemajcpaa
open Go.RowKit Kit
set_option linter.unusedVariables false
set_option linter.unusedSimpArgs false

theorem pret_int {k : IntKind} {a b : Int} (h : a = b) : Ending.returned (.int k a) = .returned (.int k b) := by rw [h]
theorem pret_bool {a b : Bool} (h : a = b) : Ending.returned (.bool a) = .returned (.bool b) := by rw [h]

theorem pbt : ByteTy Try.prog 22 5 :=
  ⟨Try.underlying22, Try.underlying5, by
    have h : (Try.prog.info? 5).map (fun i => (i.zero, i.size, i.bytes)) = some (some (.int .u8 0), 1, 1) := by kernel_rfl
    obtain ⟨i, h1, h2, h3, h4⟩ := info_parts h
    exact ⟨i, h1, h2, h3, h4⟩⟩

theorem pq54 (w : World) (a : Option Nat) : (binOp .eql 54 (.chan a) (.chan none)).run Try.prog w = .ok (.bool a.isNone) w := by
  have h : ∀ d : Nat, (Op.equalIn (d + 1) 54 (.chan a) (.chan none)).run Try.prog w = .ok a.isNone w := fun d => by
    simp [Op.equalIn, run_underlying Try.underlying54]
  simp only [binOp]
  simp [Op.equal, Op.maxDepth, h 9999]
theorem none_port (w : World) (gp gc : Nat) (h : w.cell? ⟨gp, 0, none⟩ = some (.chan (some gc))) :
    Calls Try.prog 38 #[.pointer (some ⟨gp, 0, none⟩)] w fun e w' => e = .returned (.bool false) ∧ w = w' := by
  have hq := pq54
  go_enter Try.func38, Try.ntmps38
  go_wp2
  go_ret
  exact ⟨rfl, rfl⟩
theorem none_nil (w : World) : Calls Try.prog 38 #[.pointer none] w fun e w' => e = .returned (.bool true) ∧ w = w' := by
  have hq := pq54
  go_enter Try.func38, Try.ntmps38
  go_wp2
  go_ret
  exact ⟨rfl, rfl⟩
theorem none_raw (w : World) (gp : Nat) (h : w.cell? ⟨gp, 0, none⟩ = some (.chan none)) :
    Calls Try.prog 38 #[.pointer (some ⟨gp, 0, none⟩)] w fun e w' => e = .returned (.bool true) ∧ w = w' := by
  have hq := pq54
  go_enter Try.func38, Try.ntmps38
  go_wp2
  go_ret
  exact ⟨rfl, rfl⟩

theorem in_some (w : World) (gp gc cap s r : Nat) (c : UInt8) (l : List UInt8) (h : w.cell? ⟨gp, 0, none⟩ = some (.chan (some gc))) (hc : w.heap[gc]? = some (.chan cap (bv (c :: l)).toArray false s r false)) :
    Calls Try.prog 13 #[.pointer (some ⟨gp, 0, none⟩)] w fun e w' => e = .returned (.int .u32 c.toNat) ∧ w' = w.setChan gc cap (bv l).toArray false s (r + 1) false := by
  have hc1 : (c.toNat : Int) < 4294967296 := by have := c.toNat_lt; omega
  go_enter Try.func13, Try.ntmps13
  go_upto_region 4 with (go_at_call 38; refine (none_port _ gp gc h).mono ?_; rintro e w' ⟨rfl, rfl⟩)
  refine wp_of_reg ?_
  show RegTo _ _ _ [0, 1, 2] _ _
  refine RegTo.recv (c := gc) (z := .int .u8 0) rfl (by simp [Region.wanted]) (by simp [go_sem, execOp, Conc.rcase, Act.eval]) hc (by simp [bv]) ?_
  have hg : (bv (c :: l)).toArray.getD 0 undef = .int .u8 c.toNat := by simp [bv]
  have hx : (bv (c :: l)).toArray.extract 1 (bv (c :: l)).toArray.size = (bv l).toArray := by
    apply Array.ext'
    simp [bv]
    exact List.take_of_length_le (by simp)
  rw [hg, hx]
  clear hg hx hc
  iterate 2
    (refine RegTo.oper rfl (by simp [Region.wanted]) (fun K hK => ?_)
     go_simp
     refine hK _ _ ?_
     clear hK K)
  refine RegTo.nil ?_
  go_wp2
  go_ret
  exact ⟨rfl, rfl⟩
theorem in_none (w : World) (gp gc cap s r : Nat) (h : w.cell? ⟨gp, 0, none⟩ = some (.chan (some gc))) (hc : w.heap[gc]? = some (.chan cap #[] false s r false)) :
    Calls Try.prog 13 #[.pointer (some ⟨gp, 0, none⟩)] w fun e w' => e = .returned (.int .u32 4294967295) ∧ w = w' := by
  go_enter Try.func13, Try.ntmps13
  go_upto_region 4 with (go_at_call 38; refine (none_port _ gp gc h).mono ?_; rintro e w' ⟨rfl, rfl⟩)
  refine wp_of_reg ?_
  show RegTo _ _ _ [0, 1, 2] _ _
  refine RegTo.default (c := gc) (z := .int .u8 0) rfl (by simp [Region.wanted]) (by simp [go_sem, execOp, Conc.rcase, Act.eval]) hc ?_
  clear hc
  iterate 2
    (refine RegTo.oper rfl (by simp [Region.wanted]) (fun K hK => ?_)
     go_simp
     refine hK _ _ ?_
     clear hK K)
  refine RegTo.nil ?_
  go_wp2
  go_ret
  exact ⟨rfl, rfl⟩

theorem left_port (w : World) (gp gc cap s r : Nat) (l : List UInt8) (h : w.cell? ⟨gp, 0, none⟩ = some (.chan (some gc))) (hc : w.heap[gc]? = some (.chan cap (bv l).toArray false s r false)) :
    Calls Try.prog 14 #[.pointer (some ⟨gp, 0, none⟩)] w fun e w' => e = .returned (.int .i64 l.length) ∧ w = w' := by
  have hlen := fun ty => Conc.run_len_chan (P := Try.prog) 54 ty Try.underlying54 hc
  simp only [List.size_toArray, bv_length] at hlen
  go_enter Try.func14, Try.ntmps14
  go_wp2_with (go_at_call 38; refine (none_port _ gp gc h).mono ?_; rintro e w' ⟨rfl, rfl⟩)
  go_ret
  exact ⟨rfl, rfl⟩

/-- The object at block gp is a port: its channel gc holds what is ahead; v is what was put out. -/
structure OwnP (w : World) (base gp gc : Nat) (ahead put : List UInt8) (h : Bool) (code : Nat) : Prop where
  obj : ∃ v, Bk w gp 56 #[.chan (some gc), v, .bool h, .int .u32 code] ∧ OwnB 5 base w v put
  ch : ∃ cap s r, w.heap[gc]? = some (.chan cap (bv ahead).toArray false s r false)
  bp : base ≤ gp
  bc : base ≤ gc
  few : put.length ≤ 65536
  small : code < 4294967296

theorem halted_port (w : World) (base gp gc : Nat) (ahead put : List UInt8) (h : Bool) (code : Nat) (H : OwnP w base gp gc ahead put h code) :
    Calls Try.prog 33 #[.pointer (some ⟨gp, 0, none⟩)] w fun e w' => e = .returned (.tuple #[.int .u32 code, .bool h]) ∧ ∃ n, w' = w.drewN n := by
  obtain ⟨v, hb, _⟩ := H.obj
  have c0 : w.cell? ⟨gp, 0, none⟩ = some (.chan (some gc)) := hb.cell 0
  have c2 : w.cell? ⟨gp, 2, none⟩ = some (.bool h) := hb.cell 2
  have c3 : w.cell? ⟨gp, 3, none⟩ = some (.int .u32 code) := hb.cell 3
  clear H hb
  go_enter Try.func33, Try.ntmps33
  go_wp2_with (go_at_call 38; refine (none_port _ gp gc c0).mono ?_; rintro e w' ⟨rfl, rfl⟩)
  go_quiet (fail)
  go_wp2
  go_ret2
  exact ⟨rfl, _, rfl⟩
end Go.Proofs.Ytfffkfcemajcpaa
