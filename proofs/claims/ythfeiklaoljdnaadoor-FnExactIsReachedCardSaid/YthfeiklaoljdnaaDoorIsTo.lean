/- The program's IsReached, walked. Conditions: a text of no more than 2^20 bytes. -/
import Derived.Test.YthfeiklaoljdnaaDoorAt
namespace Go.Proofs.YthfeiklaoljdnaaDoor.IsTo
open Go.RowKit Go.Proofs.YthfeiklaoljdnaaDoorW.PrintWords Go.Proofs.YthfeiklaoljdnaaDoor.Board Go.Proofs.YthfeiklaoljdnaaDoor.BaseR Go.Proofs.YthfeiklaoljdnaaDoor.ReachR Go.Proofs.YthfeiklaoljdnaaDoor.Search Go.Proofs.YthfeiklaoljdnaaDoor.On Go.Proofs.YthfeiklaoljdnaaDoor.To
open Go.Proofs.YthfeiklaoljdnaaDoor.Reach (St)
set_option linter.unusedVariables false
set_option linter.unusedSimpArgs false

set_option maxHeartbeats 4000000 in
set_option maxRecDepth 100000 in
theorem is_walk (s : ByteArray) (hs : s.size ≤ 1048576) (t u : St) (w : World) : Calls Tryd.prog 15 #[.string s, .agg (st8 t), .agg (st8 u)] w fun e w' =>
    e = .returned (.tuple #[.bool (toOk s t u && decide (0 ≤ atI (found (fl s) t) u)), .bool (toOk s t u)]) ∧ Below w.heap.size w w' := by
  cases ha : toOk s t u with
  | false =>
    have HC := Go.Lib.hid (fun W => to_no s hs t u ha W)
    rw [Bool.false_and]
    clear ha
    go_enter Tryd.func15, Tryd.ntmps15
    go_wp2_with fail
    refine (HC.out _).mono ?_
    rintro e' w1 ⟨rfl, hb⟩
    have HB := Go.Lib.hid (below_then (((Below.refl _ w).alloc (Nat.le_refl _) (.cells (st8 t) 30)).alloc (by simp) (.cells (st8 u) 30)) (by simp; omega) hb)
    clear hb
    go_wp2_with fail
    go_ret2
    exact ⟨rfl, HB.out⟩
  | true =>
    have HC := Go.Lib.hid (fun W => to_yes s hs t u ha W)
    rw [Bool.true_and]
    clear ha
    obtain ⟨L, hL⟩ : ∃ L, L = found (fl s) t := ⟨_, rfl⟩
    rw [← hL] at HC ⊢
    clear hL
    by_cases hlt : 0 ≤ atI L u
    · obtain ⟨j, wd, hj, hx⟩ := At.at_some hlt
      rw [decide_eq_true hlt]
      rw [hj] at HC
      clear hlt hj hx
      go_enter Tryd.func15, Tryd.ntmps15
      go_wp2_with fail
      refine (HC.out _).mono ?_
      rintro e' w1 ⟨B, M, v0, v1, v2, v3, rfl, hrs⟩
      have HB := Go.Lib.hid (below_then (((Below.refl _ w).alloc (Nat.le_refl _) (.cells (st8 t) 30)).alloc (by simp) (.cells (st8 u) 30)) (by simp; omega) hrs.bel)
      have hj0 : (0 : Int) ≤ (j : Int) := by omega
      clear hrs
      go_wp2_with fail
      go_ret2
      exact ⟨by first | rfl | (simp; done) | (simp [*]; done), HB.out⟩
    · rw [decide_eq_false hlt]
      have hj := At.at_neg hlt
      rw [hj] at HC
      clear hlt hj
      go_enter Tryd.func15, Tryd.ntmps15
      go_wp2_with fail
      refine (HC.out _).mono ?_
      rintro e' w1 ⟨B, M, v0, v1, v2, v3, rfl, hrs⟩
      have HB := Go.Lib.hid (below_then (((Below.refl _ w).alloc (Nat.le_refl _) (.cells (st8 t) 30)).alloc (by simp) (.cells (st8 u) 30)) (by simp; omega) hrs.bel)
      clear hrs
      go_wp2_with fail
      go_ret2
      exact ⟨rfl, HB.out⟩
end Go.Proofs.YthfeiklaoljdnaaDoor.IsTo
