/- Plain law: the number of tours from a state is the reference's. Conditions: none. -/
import Derived.Test.YtolopkjpodnmkaaDoorQCtx
namespace Go.Proofs.YtolopkjpodnmkaaDoor.PureCt
open Go.RowKit Go.Proofs.YtolopkjpodnmkaaDoor.QCt
set_option linter.unusedVariables false
set_option linter.unusedSimpArgs false

theorem countTours (s : ByteArray) (x y a0 a1 a2 a3 a4 a5 : Int) : laws_FnExactCountTours.f s x y a0 a1 a2 a3 a4 a5 = some true := by
  unfold laws_FnExactCountTours.f
  by_cases h : (s.size : Int) > 1048576
  · rw [if_pos h]
  · rw [if_neg h]
    simp only [laws_toState.f, Option.bind_some]
    rw [spec_CountTours.f, impl_CountTours.f, if_pos (show s.size ≤ 1048576 by omega)]
    simp
end Go.Proofs.YtolopkjpodnmkaaDoor.PureCt
