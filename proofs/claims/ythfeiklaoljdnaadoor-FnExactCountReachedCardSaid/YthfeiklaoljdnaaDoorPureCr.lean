/- Plain law: the count of states that are reached is the reference's. Conditions: none. -/
import Derived.Test.YthfeiklaoljdnaaDoorQCrx
import Derived.Test.YthfeiklaoljdnaaDoorOn
namespace Go.Proofs.YthfeiklaoljdnaaDoor.PureCr
open Go.RowKit Go.Proofs.YthfeiklaoljdnaaDoor.QCr Go.Proofs.YthfeiklaoljdnaaDoor.Board Go.Proofs.YthfeiklaoljdnaaDoor.BaseR Go.Proofs.YthfeiklaoljdnaaDoor.Search Go.Proofs.YthfeiklaoljdnaaDoor.On
set_option linter.unusedVariables false
set_option linter.unusedSimpArgs false

theorem countReached (s : ByteArray) (x y a0 a1 a2 a3 a4 a5 : Int) : ∃ k, laws_FnExactCountReached.f k s x y a0 a1 a2 a3 a4 a5 = some true := by
  refine ⟨3 * s.size + 30, ?_⟩
  unfold laws_FnExactCountReached.f
  by_cases h : (s.size : Int) > 1048576
  · rw [if_pos h]
  · rw [if_neg h, laws_toState.f, laws_toDie.f]
    simp only [Option.bind_some]
    rw [spec_CountReached.f, impl_CountReached.f, spec_boAsked.f, asked_at s _ _ _ _ _ _ _ _ _ (by omega), if_pos (show s.size ≤ 1048576 by omega)]
    simp only [Option.bind_some]
    cases hc : isB okB s.data.toList with
    | false =>
      have ha : askB s ⟨x, y, ⟨a0, a1, a2, a3, a4, a5⟩⟩ = false := by
        unfold askB
        rw [hc]
        rfl
      rw [ha]
      simp
    | true =>
      cases hst : stateB s.data.toList x y a0 a1 a2 a3 a4 a5 with
      | false =>
        have ha : askB s ⟨x, y, ⟨a0, a1, a2, a3, a4, a5⟩⟩ = false := by
          unfold askB
          rw [hc, hst]
          rfl
        rw [ha]
        simp
      | true =>
        have ha : askB s ⟨x, y, ⟨a0, a1, a2, a3, a4, a5⟩⟩ = true := by
          unfold askB
          rw [hc, hst]
          rfl
        obtain ⟨hi, hg⟩ := ask_iff.1 ha
        rw [ha, spec_wyAll.f]
        simp only [if_true]
        rw [wyF_eq hi hg, Option.bind_some, List.length_map, (nodes_q (box hi) hg).len]
        simp
end Go.Proofs.YthfeiklaoljdnaaDoor.PureCr
