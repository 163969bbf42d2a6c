/- The program's DistanceTo, walked. Conditions: a text of no more than 2^20 bytes. -/
import Derived.Test.YthfeiklaoljdnaaDoorAt
namespace Go.Proofs.YthfeiklaoljdnaaDoor.DistTo
open Go.RowKit Go.Proofs.YthfeiklaoljdnaaDoorW.PrintWords Go.Proofs.YthfeiklaoljdnaaDoor.Board Go.Proofs.YthfeiklaoljdnaaDoor.BaseR Go.Proofs.YthfeiklaoljdnaaDoor.ReachR Go.Proofs.YthfeiklaoljdnaaDoor.Search Go.Proofs.YthfeiklaoljdnaaDoor.On Go.Proofs.YthfeiklaoljdnaaDoor.To
open Go.Proofs.YthfeiklaoljdnaaDoor.Reach (St)
set_option linter.unusedVariables false
set_option linter.unusedSimpArgs false

def farI (L : Bfs.Nodes St) (j : Int) : Int := ((L.getD j.toNat (⟨0, 0, ⟨0, 0, 0, 0, 0, 0⟩⟩, [])).2.length : Int)
def goesB (s : ByteArray) (t u : St) : Bool := toOk s t u && decide (0 ≤ atI (found (fl s) t) u)
set_option maxHeartbeats 4000000 in
set_option maxRecDepth 100000 in
theorem dist_walk (s : ByteArray) (hs : s.size ≤ 1048576) (t u : St) (w : World) : Calls Tryd.prog 17 #[.string s, .agg (st8 t), .agg (st8 u)] w fun e w' =>
    e = .returned (.tuple #[.int .i64 (if goesB s t u = true then farI (found (fl s) t) (atI (found (fl s) t) u) else 0), .bool (goesB s t u)]) ∧ Below w.heap.size w w' := by
  unfold goesB
  cases ha : toOk s t u with
  | false =>
    have HC := Go.Lib.hid (fun W => to_no s hs t u ha W)
    rw [Bool.false_and, if_neg (by decide)]
    clear ha
    go_enter Tryd.func17, Tryd.ntmps17
    go_wp2_with fail
    refine (HC.out _).mono ?_
    rintro e' w1 ⟨rfl, hb⟩
    have HB := Go.Lib.hid (below_then (((Below.refl _ w).alloc (Nat.le_refl _) (.cells (st8 t) 30)).alloc (by simp) (.cells (st8 u) 30)) (by simp; omega) hb)
    clear hb
    go_wp2_with fail
    go_ret2
    exact ⟨rfl, HB.out⟩
  | true =>
    have HC := Go.Lib.hid (fun W => to_yes s hs t u ha W)
    rw [Bool.true_and]
    clear ha
    obtain ⟨L, hL⟩ : ∃ L, L = found (fl s) t := ⟨_, rfl⟩
    rw [← hL] at HC ⊢
    clear hL
    by_cases hlt : 0 ≤ atI L u
    · obtain ⟨j, wd, hj, hx⟩ := At.at_some hlt
      rw [if_pos (decide_eq_true hlt), decide_eq_true hlt]
      rw [hj] at HC ⊢
      have hfar : farI L (j : Int) = (wd.length : Int) := by
        unfold farI
        rw [Int.toNat_natCast, List.getD_eq_getElem?_getD, hx]
        rfl
      rw [hfar]
      have HX := Go.Lib.hid hx
      clear hlt hj hx hfar
      go_enter Tryd.func17, Tryd.ntmps17
      go_wp2_with fail
      refine (HC.out _).mono ?_
      rintro e' w1 ⟨B, M, v0, v1, v2, v3, rfl, hrs⟩
      have HB := Go.Lib.hid (below_then (((Below.refl _ w).alloc (Nat.le_refl _) (.cells (st8 t) 30)).alloc (by simp) (.cells (st8 u) 30)) (by simp; omega) hrs.bel)
      have hjl : j < L.length := (List.getElem?_eq_some_iff.1 HX.out).1
      obtain ⟨g, c, hv, _, _⟩ := R_form hrs.r3 (by rw [List.length_map]; omega)
      rw [List.length_map] at hv
      have c3 : w1.cell? ⟨B, 3, none⟩ = some v3 := blk_cell hrs.blk 3
      have hr3 := hrs.r3
      rw [hv] at hr3 c3
      have cx := int_cell hr3 j (wd.length : Int) (by rw [List.getElem?_map, HX.out]; rfl)
      have hj0 : (0 : Int) ≤ (j : Int) := by omega
      have hj1 : (j : Int) < (L.length : Int) := by omega
      clear hrs hr3 hjl hv
      go_wp2_with fail
      go_ret2
      exact ⟨by first | rfl | (simp; done) | (simp [*]; done), HB.out⟩
    · rw [if_neg (by simpa using hlt), decide_eq_false hlt]
      have hj := At.at_neg hlt
      rw [hj] at HC
      clear hlt hj
      go_enter Tryd.func17, Tryd.ntmps17
      go_wp2_with fail
      refine (HC.out _).mono ?_
      rintro e' w1 ⟨B, M, v0, v1, v2, v3, rfl, hrs⟩
      have HB := Go.Lib.hid (below_then (((Below.refl _ w).alloc (Nat.le_refl _) (.cells (st8 t) 30)).alloc (by simp) (.cells (st8 u) 30)) (by simp; omega) hrs.bel)
      clear hrs
      go_wp2_with fail
      go_ret2
      exact ⟨rfl, HB.out⟩
end Go.Proofs.YthfeiklaoljdnaaDoor.DistTo
