/- The calls that roll a die. Conditions: none. -/
import Derived.Test.YtfcifidjjbknaaaDoorWOne
import Derived.Test.YtfcifidjjbknaaaDoorRows
import Derived.OwnWalk
import Derived.Lib.Hide
import Derived.Deep.QuietTactic
import Derived.BigQuiet
namespace Go.Proofs.YtfcifidjjbknaaaDoor.DieRolls
open Go.RowKit Go.Proofs.YtfcifidjjbknaaaDoorW.PrintWords
set_option linter.unusedVariables false
set_option linter.unusedSimpArgs false

def iroll (a0 a1 a2 a3 a4 a5 c : Int) : Option (Int × Int × Int × Int × Int × Int) := if c = 110 then some (a3, a0, a2, a5, a4, a1) else if c = 101 then some (a4, a1, a0, a3, a5, a2) else if c = 115 then some (a1, a5, a2, a0, a4, a3) else some (a2, a1, a5, a3, a0, a4)
def sroll (a0 a1 a2 a3 a4 a5 c : Int) : Option (Int × Int × Int × Int × Int × Int) := if c = 0 then some (a3, a0, a2, a5, a4, a1) else if c = 1 then some (a4, a1, a0, a3, a5, a2) else if c = 2 then some (a1, a5, a2, a0, a4, a3) else some (a2, a1, a5, a3, a0, a4)
set_option maxHeartbeats 4000000 in
set_option maxRecDepth 100000 in
theorem iroll_walk (a0 a1 a2 a3 a4 a5 c r1 r2 r3 r4 r5 r6 : Int) (w : World) (h : iroll a0 a1 a2 a3 a4 a5 c = some (r1, r2, r3, r4, r5, r6)) : Calls Tryd.prog 27 #[.agg #[.int .i64 a0, .int .i64 a1, .int .i64 a2, .int .i64 a3, .int .i64 a4, .int .i64 a5], .int .u8 c] w fun e w' => e = .returned (.agg #[.int .i64 r1, .int .i64 r2, .int .i64 r3, .int .i64 r4, .int .i64 r5, .int .i64 r6]) ∧ Below w.heap.size w w' := by
  unfold iroll at h
  have hz : (w.alloc (.cells #[.int .i64 a0, .int .i64 a1, .int .i64 a2, .int .i64 a3, .int .i64 a4, .int .i64 a5] 25)).heap.size = w.heap.size + 1 := by simp
  by_cases h0 : c = 110
  case pos =>
    rw [if_pos h0] at h
    simp only [Option.some.injEq, Prod.mk.injEq] at h
    obtain ⟨rfl, rfl, rfl, rfl, rfl, rfl⟩ := h
    subst h0
    go_enter Tryd.func27, Tryd.ntmps27
    go_wp2_with fail
    have hb := blk_new (w.alloc (.cells #[.int .i64 a0, .int .i64 a1, .int .i64 a2, .int .i64 a3, .int .i64 a4, .int .i64 a5] 25)) (.cells #[.int .i64 a3, .int .i64 a0, .int .i64 a2, .int .i64 a5, .int .i64 a4, .int .i64 a1] 25)
    rw [hz] at hb
    refine bodyPost_ret (results_cell_row rfl _ _ (w.heap.size + 1) 25 #[.int .i64 a3, .int .i64 a0, .int .i64 a2, .int .i64 a5, .int .i64 a4, .int .i64 a1] (0, 0) _ rfl hb Tryd.underlying25 rfl (by kernel_rfl)) rfl ?_
    exact ⟨rfl, ((Below.refl _ w).alloc (Nat.le_refl _) _).alloc (by simp) _⟩
  rw [if_neg h0] at h
  by_cases h1 : c = 101
  case pos =>
    rw [if_pos h1] at h
    simp only [Option.some.injEq, Prod.mk.injEq] at h
    obtain ⟨rfl, rfl, rfl, rfl, rfl, rfl⟩ := h
    subst h1
    go_enter Tryd.func27, Tryd.ntmps27
    go_wp2_with fail
    have hb := blk_new (w.alloc (.cells #[.int .i64 a0, .int .i64 a1, .int .i64 a2, .int .i64 a3, .int .i64 a4, .int .i64 a5] 25)) (.cells #[.int .i64 a4, .int .i64 a1, .int .i64 a0, .int .i64 a3, .int .i64 a5, .int .i64 a2] 25)
    rw [hz] at hb
    refine bodyPost_ret (results_cell_row rfl _ _ (w.heap.size + 1) 25 #[.int .i64 a4, .int .i64 a1, .int .i64 a0, .int .i64 a3, .int .i64 a5, .int .i64 a2] (0, 0) _ rfl hb Tryd.underlying25 rfl (by kernel_rfl)) rfl ?_
    exact ⟨rfl, ((Below.refl _ w).alloc (Nat.le_refl _) _).alloc (by simp) _⟩
  rw [if_neg h1] at h
  by_cases h2 : c = 115
  case pos =>
    rw [if_pos h2] at h
    simp only [Option.some.injEq, Prod.mk.injEq] at h
    obtain ⟨rfl, rfl, rfl, rfl, rfl, rfl⟩ := h
    subst h2
    go_enter Tryd.func27, Tryd.ntmps27
    go_wp2_with fail
    have hb := blk_new (w.alloc (.cells #[.int .i64 a0, .int .i64 a1, .int .i64 a2, .int .i64 a3, .int .i64 a4, .int .i64 a5] 25)) (.cells #[.int .i64 a1, .int .i64 a5, .int .i64 a2, .int .i64 a0, .int .i64 a4, .int .i64 a3] 25)
    rw [hz] at hb
    refine bodyPost_ret (results_cell_row rfl _ _ (w.heap.size + 1) 25 #[.int .i64 a1, .int .i64 a5, .int .i64 a2, .int .i64 a0, .int .i64 a4, .int .i64 a3] (0, 0) _ rfl hb Tryd.underlying25 rfl (by kernel_rfl)) rfl ?_
    exact ⟨rfl, ((Below.refl _ w).alloc (Nat.le_refl _) _).alloc (by simp) _⟩
  rw [if_neg h2] at h
  simp only [Option.some.injEq, Prod.mk.injEq] at h
  obtain ⟨rfl, rfl, rfl, rfl, rfl, rfl⟩ := h
  have q0 : (c == 110) = false := beq_eq_false_iff_ne.mpr h0
  have q1 : (c == 101) = false := beq_eq_false_iff_ne.mpr h1
  have q2 : (c == 115) = false := beq_eq_false_iff_ne.mpr h2
  go_enter Tryd.func27, Tryd.ntmps27
  go_wp2_with fail
  have hb := blk_new (w.alloc (.cells #[.int .i64 a0, .int .i64 a1, .int .i64 a2, .int .i64 a3, .int .i64 a4, .int .i64 a5] 25)) (.cells #[.int .i64 a2, .int .i64 a1, .int .i64 a5, .int .i64 a3, .int .i64 a0, .int .i64 a4] 25)
  rw [hz] at hb
  refine bodyPost_ret (results_cell_row rfl _ _ (w.heap.size + 1) 25 #[.int .i64 a2, .int .i64 a1, .int .i64 a5, .int .i64 a3, .int .i64 a0, .int .i64 a4] (0, 0) _ rfl hb Tryd.underlying25 rfl (by kernel_rfl)) rfl ?_
  exact ⟨rfl, ((Below.refl _ w).alloc (Nat.le_refl _) _).alloc (by simp) _⟩
set_option maxHeartbeats 4000000 in
set_option maxRecDepth 100000 in
theorem sroll_walk (a0 a1 a2 a3 a4 a5 c r1 r2 r3 r4 r5 r6 : Int) (w : World) (h : sroll a0 a1 a2 a3 a4 a5 c = some (r1, r2, r3, r4, r5, r6)) : Calls Tryd.prog 35 #[.agg #[.int .i64 a0, .int .i64 a1, .int .i64 a2, .int .i64 a3, .int .i64 a4, .int .i64 a5], .int .i64 c] w fun e w' => e = .returned (.agg #[.int .i64 r1, .int .i64 r2, .int .i64 r3, .int .i64 r4, .int .i64 r5, .int .i64 r6]) ∧ Below w.heap.size w w' := by
  unfold sroll at h
  have hz : (w.alloc (.cells #[.int .i64 a0, .int .i64 a1, .int .i64 a2, .int .i64 a3, .int .i64 a4, .int .i64 a5] 25)).heap.size = w.heap.size + 1 := by simp
  by_cases h0 : c = 0
  case pos =>
    rw [if_pos h0] at h
    simp only [Option.some.injEq, Prod.mk.injEq] at h
    obtain ⟨rfl, rfl, rfl, rfl, rfl, rfl⟩ := h
    subst h0
    go_enter Tryd.func35, Tryd.ntmps35
    go_wp2_with fail
    have hb := blk_new (w.alloc (.cells #[.int .i64 a0, .int .i64 a1, .int .i64 a2, .int .i64 a3, .int .i64 a4, .int .i64 a5] 25)) (.cells #[.int .i64 a3, .int .i64 a0, .int .i64 a2, .int .i64 a5, .int .i64 a4, .int .i64 a1] 25)
    rw [hz] at hb
    refine bodyPost_ret (results_cell_row rfl _ _ (w.heap.size + 1) 25 #[.int .i64 a3, .int .i64 a0, .int .i64 a2, .int .i64 a5, .int .i64 a4, .int .i64 a1] (0, 0) _ rfl hb Tryd.underlying25 rfl (by kernel_rfl)) rfl ?_
    exact ⟨rfl, ((Below.refl _ w).alloc (Nat.le_refl _) _).alloc (by simp) _⟩
  rw [if_neg h0] at h
  by_cases h1 : c = 1
  case pos =>
    rw [if_pos h1] at h
    simp only [Option.some.injEq, Prod.mk.injEq] at h
    obtain ⟨rfl, rfl, rfl, rfl, rfl, rfl⟩ := h
    subst h1
    go_enter Tryd.func35, Tryd.ntmps35
    go_wp2_with fail
    have hb := blk_new (w.alloc (.cells #[.int .i64 a0, .int .i64 a1, .int .i64 a2, .int .i64 a3, .int .i64 a4, .int .i64 a5] 25)) (.cells #[.int .i64 a4, .int .i64 a1, .int .i64 a0, .int .i64 a3, .int .i64 a5, .int .i64 a2] 25)
    rw [hz] at hb
    refine bodyPost_ret (results_cell_row rfl _ _ (w.heap.size + 1) 25 #[.int .i64 a4, .int .i64 a1, .int .i64 a0, .int .i64 a3, .int .i64 a5, .int .i64 a2] (0, 0) _ rfl hb Tryd.underlying25 rfl (by kernel_rfl)) rfl ?_
    exact ⟨rfl, ((Below.refl _ w).alloc (Nat.le_refl _) _).alloc (by simp) _⟩
  rw [if_neg h1] at h
  by_cases h2 : c = 2
  case pos =>
    rw [if_pos h2] at h
    simp only [Option.some.injEq, Prod.mk.injEq] at h
    obtain ⟨rfl, rfl, rfl, rfl, rfl, rfl⟩ := h
    subst h2
    go_enter Tryd.func35, Tryd.ntmps35
    go_wp2_with fail
    have hb := blk_new (w.alloc (.cells #[.int .i64 a0, .int .i64 a1, .int .i64 a2, .int .i64 a3, .int .i64 a4, .int .i64 a5] 25)) (.cells #[.int .i64 a1, .int .i64 a5, .int .i64 a2, .int .i64 a0, .int .i64 a4, .int .i64 a3] 25)
    rw [hz] at hb
    refine bodyPost_ret (results_cell_row rfl _ _ (w.heap.size + 1) 25 #[.int .i64 a1, .int .i64 a5, .int .i64 a2, .int .i64 a0, .int .i64 a4, .int .i64 a3] (0, 0) _ rfl hb Tryd.underlying25 rfl (by kernel_rfl)) rfl ?_
    exact ⟨rfl, ((Below.refl _ w).alloc (Nat.le_refl _) _).alloc (by simp) _⟩
  rw [if_neg h2] at h
  simp only [Option.some.injEq, Prod.mk.injEq] at h
  obtain ⟨rfl, rfl, rfl, rfl, rfl, rfl⟩ := h
  have q0 : (c == 0) = false := beq_eq_false_iff_ne.mpr h0
  have q1 : (c == 1) = false := beq_eq_false_iff_ne.mpr h1
  have q2 : (c == 2) = false := beq_eq_false_iff_ne.mpr h2
  go_enter Tryd.func35, Tryd.ntmps35
  go_wp2_with fail
  have hb := blk_new (w.alloc (.cells #[.int .i64 a0, .int .i64 a1, .int .i64 a2, .int .i64 a3, .int .i64 a4, .int .i64 a5] 25)) (.cells #[.int .i64 a2, .int .i64 a1, .int .i64 a5, .int .i64 a3, .int .i64 a0, .int .i64 a4] 25)
  rw [hz] at hb
  refine bodyPost_ret (results_cell_row rfl _ _ (w.heap.size + 1) 25 #[.int .i64 a2, .int .i64 a1, .int .i64 a5, .int .i64 a3, .int .i64 a0, .int .i64 a4] (0, 0) _ rfl hb Tryd.underlying25 rfl (by kernel_rfl)) rfl ?_
  exact ⟨rfl, ((Below.refl _ w).alloc (Nat.le_refl _) _).alloc (by simp) _⟩
end Go.Proofs.YtfcifidjjbknaaaDoor.DieRolls
