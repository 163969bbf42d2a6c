/- The call of hasSix: true exactly if the sorted numbers, each once, are six. -/
import Derived.Test.YtdlifinfjjbmkaaSorted
namespace Go.Proofs.Ytdlifinfjjbmkaa.Six
open Go.RowKit Go.Proofs.YtdlifinfjjbmkaaW.PrintWords Go.Proofs.Ytdlifinfjjbmkaa.IsDie Go.Proofs.Ytdlifinfjjbmkaa.Sorted Go.Sort
set_option linter.unusedVariables false
set_option linter.unusedSimpArgs false

def sixB (a0 a1 a2 a3 a4 a5 : Int) : Bool := decide ((Lib.compact (inOrder [a0, a1, a2, a3, a4, a5])).length = 6)

theorem row_start (a0 a1 a2 a3 a4 a5 : Int) (w : World) (td ti : TypeId) :
    Row (w.heap.size + 1) (w.heap.size + 1 + 1) [a0, a1, a2, a3, a4, a5] (w.alloc (.cells #[.int .i64 a0, .int .i64 a1, .int .i64 a2, .int .i64 a3, .int .i64 a4, .int .i64 a5] td))
      (((w.alloc (.cells #[.int .i64 a0, .int .i64 a1, .int .i64 a2, .int .i64 a3, .int .i64 a4, .int .i64 a5] td)).alloc (.cells #[.int .i64 a0, .int .i64 a1, .int .i64 a2, .int .i64 a3, .int .i64 a4, .int .i64 a5] td)).alloc (.cells #[.int .i64 a0, .int .i64 a1, .int .i64 a2, .int .i64 a3, .int .i64 a4, .int .i64 a5] ti)) := by
  refine ⟨(((Below.refl _ _).alloc (by simp) _).alloc (by simp) _), by omega, by simp, ?_⟩
  refine holds_of_blockI (cur := #[.int .i64 a0, .int .i64 a1, .int .i64 a2, .int .i64 a3, .int .i64 a4, .int .i64 a5]) (e := ti) ?_ rfl
  show (((w.heap.push _).push _).push _)[w.heap.size + 1 + 1]? = _
  rw [Array.getElem?_push, if_pos (by simp)]

set_option maxRecDepth 100000 in
set_option maxHeartbeats 4000000 in
theorem six_walk (a0 a1 a2 a3 a4 a5 : Int) (n : Nat) (r : Bool) (hn : (Lib.compact (inOrder [a0, a1, a2, a3, a4, a5])).length = n) (hr : decide (n = 6) = r) (w : World) : Calls Try.prog 72 #[.agg #[.int .i64 a0, .int .i64 a1, .int .i64 a2, .int .i64 a3, .int .i64 a4, .int .i64 a5]] w
    fun e w' => e = .returned (.bool r) ∧ Below w.heap.size w w' := by
  have HR := Lib.hid hr
  have HN := Lib.hid hn
  clear hr hn
  go_enter Try.func72, Try.ntmps72
  go_wp2_with fail
  refine (faces_calls _ _ _ _ _ _ _).mono ?_
  rintro e w2 ⟨rfl, rfl⟩
  go_wp2_with fail
  refine (sort_calls (row_start a0 a1 a2 a3 a4 a5 w 26 3) rfl).mono ?_
  rintro e w3 ⟨rfl, hr⟩
  have HC := Lib.hid (compact_calls hr (inOrder_length _) (cap := 6) (by omega))
  clear hr
  go_wp2_with fail
  refine (HC.out).mono ?_
  rintro e w4 ⟨rfl, hb⟩
  rw [HN.out]
  have HB := Lib.hid (below_then ((Below.refl _ w).alloc (Nat.le_refl _) (.cells #[.int .i64 a0, .int .i64 a1, .int .i64 a2, .int .i64 a3, .int .i64 a4, .int .i64 a5] 26)) (by simp) (show Below _ _ w4 from Below.mono hb (by simp)))
  clear hb
  go_wp2_with fail
  all_goals go_ret
  all_goals refine ⟨?_, HB.out⟩
  all_goals rw [← HR.out]
  all_goals simp_all
  rw [Bool.eq_iff_iff, beq_iff_eq, decide_eq_true_eq]
  omega

theorem six_calls (a0 a1 a2 a3 a4 a5 : Int) (w : World) : Calls Try.prog 72 #[.agg #[.int .i64 a0, .int .i64 a1, .int .i64 a2, .int .i64 a3, .int .i64 a4, .int .i64 a5]] w
    fun e w' => e = .returned (.bool (sixB a0 a1 a2 a3 a4 a5)) ∧ Below w.heap.size w w' :=
  six_walk a0 a1 a2 a3 a4 a5 _ _ rfl rfl w
end Go.Proofs.Ytdlifinfjjbmkaa.Six
