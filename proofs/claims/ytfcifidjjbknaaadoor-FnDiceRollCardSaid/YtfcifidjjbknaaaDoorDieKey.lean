/- Dice as keys of a map, and '==' of dice. -/
import Derived.Test.YtfcifidjjbknaaaDoorMaps
import Derived.Test.YtfcifidjjbknaaaDoorRolled
import Derived.Test.YtfcifidjjbknaaaDoorWOne
namespace Go.Proofs.YtfcifidjjbknaaaDoor.DieKey
open Go.RowKit Go.Proofs.YtfcifidjjbknaaaDoorW.PrintWords Go.Proofs.YtfcifidjjbknaaaDoor.Rolled Go.Proofs.YtfcifidjjbknaaaDoor.Dirs
open Go.Proofs.YtfcifidjjbknaaaDoor.Dice (Die)
set_option linter.unusedVariables false
set_option linter.unusedSimpArgs false

theorem eqA (d : Nat) (w : World) (x0 y0 : Int) (x1 y1 : Int) (x2 y2 : Int) (x3 y3 : Int) (x4 y4 : Int) (x5 y5 : Int) :
    (Op.equalIn (d + 2) 25 (.agg #[.int .i64 x0, .int .i64 x1, .int .i64 x2, .int .i64 x3, .int .i64 x4, .int .i64 x5]) (.agg #[.int .i64 y0, .int .i64 y1, .int .i64 y2, .int .i64 y3, .int .i64 y4, .int .i64 y5])).run Tryd.prog w = .ok (x0 == y0 && (x1 == y1 && (x2 == y2 && (x3 == y3 && (x4 == y4 && (x5 == y5)))))) w := by
  refine eqA_of Tryd.underlying25 (by kernel_rfl) ?_
  refine eqf_cons (by rfl) (by go_simp; rfl) (by go_simp; rfl) (by go_simp) ?_
  refine eqf_cons (by rfl) (by go_simp; rfl) (by go_simp; rfl) (by go_simp) ?_
  refine eqf_cons (by rfl) (by go_simp; rfl) (by go_simp; rfl) (by go_simp) ?_
  refine eqf_cons (by rfl) (by go_simp; rfl) (by go_simp; rfl) (by go_simp) ?_
  refine eqf_cons (by rfl) (by go_simp; rfl) (by go_simp; rfl) (by go_simp) ?_
  exact eqf_last (by rfl) (by go_simp; rfl) (by go_simp; rfl) (by go_simp)

theorem beqDie (x y : Die) : (x.t == y.t && (x.n == y.n && (x.e == y.e && (x.s == y.s && (x.w == y.w && (x.b == y.b)))))) = decide (x = y) := by
  obtain ⟨x0, x1, x2, x3, x4, x5⟩ := x
  obtain ⟨y0, y1, y2, y3, y4, y5⟩ := y
  rw [Bool.eq_iff_iff]
  simp

theorem chk (em : Bool) (x : Die) (w : World) : (Instr.checkKey em 10000 25 (encDie x)).run Tryd.prog w = .ok () w := by
  have h : ∀ (n : Nat) (v : Int) (w : World), (Instr.checkKey em (n + 1) 3 (.int .i64 v)).run Tryd.prog w = .ok () w := fun n v w => by
    unfold Instr.checkKey
    simp [run_underlying Tryd.underlying3]
  rw [Instr.checkKey]
  go_simp

theorem fits : Maps.Fits Tryd.prog 25 encDie where
  chk := chk
  eql := fun x y w => by
    unfold Op.equal Op.maxDepth
    rw [show encDie x = _ from rfl, show encDie y = _ from rfl, ← beqDie]
    exact eqA 9998 w _ _ _ _ _ _ _ _ _ _ _ _
  agg := fun x => ⟨_, rfl⟩
  kd := ⟨_, Tryd.underlying25⟩
end Go.Proofs.YtfcifidjjbknaaaDoor.DieKey
