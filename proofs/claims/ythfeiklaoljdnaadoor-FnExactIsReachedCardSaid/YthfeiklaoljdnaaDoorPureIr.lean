/- Plain law: whether a state is reached is the reference's answer. Conditions: none. -/
import Derived.Test.YthfeiklaoljdnaaDoorQIrx
import Derived.Test.YthfeiklaoljdnaaDoorAt
namespace Go.Proofs.YthfeiklaoljdnaaDoor.PureIr
open Go.RowKit Go.Proofs.YthfeiklaoljdnaaDoor.QIr Go.Proofs.YthfeiklaoljdnaaDoor.Board Go.Proofs.YthfeiklaoljdnaaDoor.BaseR Go.Proofs.YthfeiklaoljdnaaDoor.Search Go.Proofs.YthfeiklaoljdnaaDoor.On Go.Proofs.YthfeiklaoljdnaaDoor.To
set_option linter.unusedVariables false
set_option linter.unusedSimpArgs false

theorem ask_eq (s : ByteArray) (x y a0 a1 a2 a3 a4 a5 : Int) (k : Nat) (hk : 3 * s.size + 10 < k) :
    spec_boAsked.f k s x y a0 a1 a2 a3 a4 a5 = some (if isB okB s.data.toList = true then ((wide s.data.toList : Int), (high s.data.toList : Int), ints (cells s.data.toList), stateB s.data.toList x y a0 a1 a2 a3 a4 a5) else nope) := asked_at s x y a0 a1 a2 a3 a4 a5 k hk
theorem wyTo_at (s : ByteArray) (t u : Reach.St) (k : Nat) (hk : 3 * s.size + 1100 < k) : spec_wyTo.f k s t.x t.y t.d.t t.d.n t.d.e t.d.s t.d.w t.d.b u.x u.y u.d.t u.d.n u.d.e u.d.s u.d.w u.d.b =
    some (if toOk s t u = true then ((nodes (fl s) (wide s.data.toList) t).map WyR.sNd, atI (found (fl s) t) u, true) else ([], -1, false)) := by
  obtain ⟨k, rfl⟩ : ∃ m, k = m + 1 := ⟨k - 1, by omega⟩
  unfold spec_wyTo.f toOk
  rw [ask_eq s _ _ _ _ _ _ _ _ _ (by omega), Option.bind_some]
  cases hc : isB okB s.data.toList with
  | false =>
    have ha : askB s t = false := by
      unfold askB
      rw [hc]
      rfl
    rw [ha]
    rfl
  | true =>
    have hi := isB_iff.1 hc
    rw [if_pos rfl]
    simp only
    cases hst : stateB s.data.toList t.x t.y t.d.t t.d.n t.d.e t.d.s t.d.w t.d.b with
    | false =>
      have ha : askB s t = false := by
        unfold askB
        rw [hc, hst]
        rfl
      rw [ha]
      rfl
    | true =>
      have ha : askB s t = true := by
        unfold askB
        rw [hc, hst]
        rfl
      rw [if_pos rfl, show spec_boState.f (k + 1) _ _ _ _ _ _ _ _ _ _ _ = _ from boState_eq s.data.toList hi u.x u.y u.d.t u.d.n u.d.e u.d.s u.d.w u.d.b (k + 1) (by omega), Option.bind_some, ha, Bool.true_and]
      have hau : askB s u = stateB s.data.toList u.x u.y u.d.t u.d.n u.d.e u.d.s u.d.w u.d.b := by
        unfold askB
        rw [hc]
        rfl
      rw [hau]
      cases hsu : stateB s.data.toList u.x u.y u.d.t u.d.n u.d.e u.d.s u.d.w u.d.b with
      | false => rfl
      | true =>
        obtain ⟨_, hg⟩ := ask_iff.1 ha
        have hp := nodes_q (box hi) hg
        have hl := found_length (box hi) hg
        have h1 := wyF_eq hi hg
        rw [if_pos rfl, spec_wyTo.j0, if_neg (by decide), spec_wyAll.f, h1, Option.bind_some, show spec_wyFind.f k _ _ _ _ _ _ _ _ _ = _ from At.wyFind_eq _ u (by rw [hp.len]; omega) _ hp k (by rw [hp.len]; omega)]
        rfl
theorem isReached (s : ByteArray) (x y a0 a1 a2 a3 a4 a5 z v b0 b1 b2 b3 b4 b5 : Int) : ∃ k, laws_FnExactIsReached.f k s x y a0 a1 a2 a3 a4 a5 z v b0 b1 b2 b3 b4 b5 = some true := by
  refine ⟨3 * s.size + 1101, ?_⟩
  unfold laws_FnExactIsReached.f
  by_cases h : (s.size : Int) > 1048576
  · rw [if_pos h]
  · have hw := wyTo_at s ⟨x, y, ⟨a0, a1, a2, a3, a4, a5⟩⟩ ⟨z, v, ⟨b0, b1, b2, b3, b4, b5⟩⟩ (3 * s.size + 1101) (by omega)
    simp only at hw
    rw [if_neg h]
    simp only [laws_toState.f, laws_toDie.f, Option.bind_some]
    rw [spec_IsReached.f, impl_IsReached.f, hw, if_pos (show s.size ≤ 1048576 by omega)]
    cases toOk s ⟨x, y, ⟨a0, a1, a2, a3, a4, a5⟩⟩ ⟨z, v, ⟨b0, b1, b2, b3, b4, b5⟩⟩ with
    | false => simp
    | true => simp
end Go.Proofs.YthfeiklaoljdnaaDoor.PureIr
