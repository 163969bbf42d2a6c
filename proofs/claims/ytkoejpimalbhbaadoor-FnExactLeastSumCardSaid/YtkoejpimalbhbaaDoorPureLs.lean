/- Plain law: the least sum to a state is the reference's answer. Conditions: none. -/
import Derived.Test.YtkoejpimalbhbaaDoorQLsx
import Derived.Test.YtkoejpimalbhbaaDoorAt
namespace Go.Proofs.YtkoejpimalbhbaaDoor.PureLs
open Go.RowKit Go.Proofs.YtkoejpimalbhbaaDoor.QLs Go.Proofs.YtkoejpimalbhbaaDoor.Board Go.Proofs.YtkoejpimalbhbaaDoor.BaseR Go.Proofs.YtkoejpimalbhbaaDoor.Search Go.Proofs.YtkoejpimalbhbaaDoor.On Go.Proofs.YtkoejpimalbhbaaDoor.To Go.Proofs.YtkoejpimalbhbaaDoor.PriceG
set_option linter.unusedVariables false
set_option linter.unusedSimpArgs false

theorem ask_eq (s : ByteArray) (x y a0 a1 a2 a3 a4 a5 : Int) (k : Nat) (hk : 3 * s.size + 10 < k) :
  spec_boAsked.f k s x y a0 a1 a2 a3 a4 a5 = some (if isB okB s.data.toList = true then ((wide s.data.toList : Int), (high s.data.toList : Int), ints (cells s.data.toList), stateB s.data.toList x y a0 a1 a2 a3 a4 a5) else nope) := asked_at s x y a0 a1 a2 a3 a4 a5 k hk
theorem wyTo_at (s : ByteArray) (t u : Reach.St) (k : Nat) (hk : 3 * s.size + 1100 < k) : spec_wyTo.f k s t.x t.y t.d.t t.d.n t.d.e t.d.s t.d.w t.d.b u.x u.y u.d.t u.d.n u.d.e u.d.s u.d.w u.d.b =
  some (if toOk s t u = true then ((nodes (fl s) (wide s.data.toList) t).map WyR.sNd, atI (found (fl s) t) u, true) else ([], -1, false)) := by
 obtain ⟨k, rfl⟩ : ∃ m, k = m + 1 := ⟨k - 1, by omega⟩
 unfold spec_wyTo.f toOk
 rw [ask_eq s _ _ _ _ _ _ _ _ _ (by omega), Option.bind_some]
 cases hc : isB okB s.data.toList with
 | false =>
  have ha : askB s t = false := by
   unfold askB
   rw [hc]
   rfl
  rw [ha]
  rfl
 | true =>
  have hi := isB_iff.1 hc
  rw [if_pos rfl]
  simp only
  cases hst : stateB s.data.toList t.x t.y t.d.t t.d.n t.d.e t.d.s t.d.w t.d.b with
  | false =>
   have ha : askB s t = false := by
    unfold askB
    rw [hc, hst]
    rfl
   rw [ha]
   rfl
  | true =>
   have ha : askB s t = true := by
    unfold askB
    rw [hc, hst]
    rfl
   rw [if_pos rfl, show spec_boState.f (k + 1) _ _ _ _ _ _ _ _ _ _ _ = _ from boState_eq s.data.toList hi u.x u.y u.d.t u.d.n u.d.e u.d.s u.d.w u.d.b (k + 1) (by omega), Option.bind_some, ha, Bool.true_and]
   have hau : askB s u = stateB s.data.toList u.x u.y u.d.t u.d.n u.d.e u.d.s u.d.w u.d.b := by
    unfold askB
    rw [hc]
    rfl
   rw [hau]
   cases hsu : stateB s.data.toList u.x u.y u.d.t u.d.n u.d.e u.d.s u.d.w u.d.b with
   | false => rfl
   | true =>
    obtain ⟨_, hg⟩ := ask_iff.1 ha
    have hp := nodes_q (box hi) hg
    have hl := found_length (box hi) hg
    have h1 := wyF_eq hi hg
    rw [if_pos rfl, spec_wyTo.j0, if_neg (by decide), spec_wyAll.f, h1, Option.bind_some, show spec_wyFind.f k _ _ _ _ _ _ _ _ _ = _ from At.wyFind_eq _ u (by rw [hp.len]; omega) _ hp k (by rw [hp.len]; omega)]
    rfl
theorem rd_row (n : Nat) (g : Nat → Int) {j : Nat} (hj : j < n) : Go.Proofs.YtkoejpimalbhbaaDoorW.PrintWords.rd (rowF n g) (j : Int) = g j := by
 unfold Go.Proofs.YtkoejpimalbhbaaDoorW.PrintWords.rd
 rw [Int.toNat_natCast, List.getD_eq_getElem?_getD, row_at g hj]
 rfl
theorem leastSum (s : ByteArray) (x y a0 a1 a2 a3 a4 a5 z v b0 b1 b2 b3 b4 b5 : Int) : ∃ k, laws_FnExactLeastSum.f k s x y a0 a1 a2 a3 a4 a5 z v b0 b1 b2 b3 b4 b5 = some true := by
 refine ⟨3 * s.size + 1101, ?_⟩
 unfold laws_FnExactLeastSum.f
 by_cases h : (s.size : Int) > 1048576
 ·rw [if_pos h]
 ·have hw := wyTo_at s ⟨x, y, ⟨a0, a1, a2, a3, a4, a5⟩⟩ ⟨z, v, ⟨b0, b1, b2, b3, b4, b5⟩⟩ (3 * s.size + 1101) (by omega)
  simp only at hw
  rw [if_neg h]
  simp only [laws_toState.f, Option.bind_some]
  rw [spec_LeastSum.f, impl_LeastSum.f, hw, if_pos (show s.size ≤ 1048576 by omega)]
  unfold LeastS.goesB
  cases ha : toOk s ⟨x, y, ⟨a0, a1, a2, a3, a4, a5⟩⟩ ⟨z, v, ⟨b0, b1, b2, b3, b4, b5⟩⟩ with
  | false => simp
  | true =>
   obtain ⟨hi, hg⟩ := ask_iff.1 (by unfold toOk at ha; rw [Bool.and_eq_true] at ha; exact ha.1)
   have hn := WyNx.nodes_len (box hi) hg
   have hc : spec_wyCosts.f ((nodes (fl s) (wide s.data.toList) ⟨x, y, ⟨a0, a1, a2, a3, a4, a5⟩⟩).map WyR.sNd) = some (rowF (found (fl s) ⟨x, y, ⟨a0, a1, a2, a3, a4, a5⟩⟩).length (fun k => (CostF.lp ((nodes (fl s) (wide s.data.toList) ⟨x, y, ⟨a0, a1, a2, a3, a4, a5⟩⟩).map WyR.sNd) k).1), rowF (found (fl s) ⟨x, y, ⟨a0, a1, a2, a3, a4, a5⟩⟩).length (fun k => (CostF.lp ((nodes (fl s) (wide s.data.toList) ⟨x, y, ⟨a0, a1, a2, a3, a4, a5⟩⟩).map WyR.sNd) k).2)) := by
    unfold spec_wyCosts.f CostF.costF
    rw [if_pos (CostF.nodes_ok (box hi) hg), hn]
   have he := fun k => CostF.lp_eq (box hi) hg k
   rw [if_pos rfl]
   simp only [Option.bind_some, if_true, Bool.true_and]
   by_cases hat : 0 ≤ atI (found (fl s) ⟨x, y, ⟨a0, a1, a2, a3, a4, a5⟩⟩) ⟨z, v, ⟨b0, b1, b2, b3, b4, b5⟩⟩
   ·obtain ⟨j, wd, hj, hx⟩ := At.at_some hat
    have hjl := (List.getElem?_eq_some_iff.1 hx).1
    rw [decide_eq_true hat, hj, if_neg (by omega), hc]
    simp only [Option.bind_some]
    rw [row_len, if_pos (by omega), if_pos (by omega), rd_row _ _ hjl, he j, if_pos rfl, LeastS.sum_nat]
    simp
   ·rw [At.at_neg hat]
    simp
end Go.Proofs.YtkoejpimalbhbaaDoor.PureLs
