/- The calls that compare two dice, two states, part by part. Conditions: none. -/
import Derived.Test.YtkmkanpikhnmbaaDoorWWords
import Derived.Test.YtkmkanpikhnmbaaDoorRows
import Derived.OwnWalk
import Derived.Lib.Hide
import Derived.Deep.QuietTactic
import Derived.BigQuiet
namespace Go.Proofs.YtkmkanpikhnmbaaDoor.Eqs
open Go.RowKit Go.Proofs.YtkmkanpikhnmbaaDoorW.PrintWords
set_option linter.unusedVariables false
set_option linter.unusedSimpArgs false

def eqDie (a0 a1 a2 a3 a4 a5 b0 b1 b2 b3 b4 b5 : Int) : Bool := (a0 == b0 && (a1 == b1 && (a2 == b2 && (a3 == b3 && (a4 == b4 && (a5 == b5))))))
def eqState (x y a0 a1 a2 a3 a4 a5 u v b0 b1 b2 b3 b4 b5 : Int) : Bool := (x == u && (y == v && eqDie a0 a1 a2 a3 a4 a5 b0 b1 b2 b3 b4 b5))
set_option maxHeartbeats 4000000 in
set_option maxRecDepth 100000 in
theorem eqDie_walk (a0 a1 a2 a3 a4 a5 b0 b1 b2 b3 b4 b5 : Int) (w : World) : Calls Tryd.prog 35 #[.agg #[.int .i64 a0, .int .i64 a1, .int .i64 a2, .int .i64 a3, .int .i64 a4, .int .i64 a5], .agg #[.int .i64 b0, .int .i64 b1, .int .i64 b2, .int .i64 b3, .int .i64 b4, .int .i64 b5]] w fun e w' => e = .returned (.bool (eqDie a0 a1 a2 a3 a4 a5 b0 b1 b2 b3 b4 b5)) ∧ Below w.heap.size w w' := by
  by_cases h0 : a0 = b0
  case neg =>
    have q1 : (a0 == b0) = false := beq_eq_false_iff_ne.mpr h0
    have q2 : (a0 != b0) = true := bne_iff_ne.mpr h0
    go_enter Tryd.func35, Tryd.ntmps35
    go_wp2_with fail
    go_ret
    exact ⟨by simp [eqDie, q1], ((Below.refl _ w).alloc (Nat.le_refl _) _).alloc (by simp) _⟩
  subst h0
  by_cases h1 : a1 = b1
  case neg =>
    have q1 : (a1 == b1) = false := beq_eq_false_iff_ne.mpr h1
    have q2 : (a1 != b1) = true := bne_iff_ne.mpr h1
    go_enter Tryd.func35, Tryd.ntmps35
    go_wp2_with fail
    go_ret
    exact ⟨by simp [eqDie, q1], ((Below.refl _ w).alloc (Nat.le_refl _) _).alloc (by simp) _⟩
  subst h1
  by_cases h2 : a2 = b2
  case neg =>
    have q1 : (a2 == b2) = false := beq_eq_false_iff_ne.mpr h2
    have q2 : (a2 != b2) = true := bne_iff_ne.mpr h2
    go_enter Tryd.func35, Tryd.ntmps35
    go_wp2_with fail
    go_ret
    exact ⟨by simp [eqDie, q1], ((Below.refl _ w).alloc (Nat.le_refl _) _).alloc (by simp) _⟩
  subst h2
  by_cases h3 : a3 = b3
  case neg =>
    have q1 : (a3 == b3) = false := beq_eq_false_iff_ne.mpr h3
    have q2 : (a3 != b3) = true := bne_iff_ne.mpr h3
    go_enter Tryd.func35, Tryd.ntmps35
    go_wp2_with fail
    go_ret
    exact ⟨by simp [eqDie, q1], ((Below.refl _ w).alloc (Nat.le_refl _) _).alloc (by simp) _⟩
  subst h3
  by_cases h4 : a4 = b4
  case neg =>
    have q1 : (a4 == b4) = false := beq_eq_false_iff_ne.mpr h4
    have q2 : (a4 != b4) = true := bne_iff_ne.mpr h4
    go_enter Tryd.func35, Tryd.ntmps35
    go_wp2_with fail
    go_ret
    exact ⟨by simp [eqDie, q1], ((Below.refl _ w).alloc (Nat.le_refl _) _).alloc (by simp) _⟩
  subst h4
  by_cases h5 : a5 = b5
  case neg =>
    have q1 : (a5 == b5) = false := beq_eq_false_iff_ne.mpr h5
    have q2 : (a5 != b5) = true := bne_iff_ne.mpr h5
    go_enter Tryd.func35, Tryd.ntmps35
    go_wp2_with fail
    go_ret
    exact ⟨by simp [eqDie, q1], ((Below.refl _ w).alloc (Nat.le_refl _) _).alloc (by simp) _⟩
  subst h5
  go_enter Tryd.func35, Tryd.ntmps35
  go_wp2_with fail
  go_ret
  exact ⟨by simp [eqDie], ((Below.refl _ w).alloc (Nat.le_refl _) _).alloc (by simp) _⟩
set_option maxHeartbeats 4000000 in
set_option maxRecDepth 100000 in
theorem eqState_walk (x y a0 a1 a2 a3 a4 a5 u v b0 b1 b2 b3 b4 b5 : Int) (w : World) : Calls Tryd.prog 19 #[.agg #[.int .i64 x, .int .i64 y, .int .i64 a0, .int .i64 a1, .int .i64 a2, .int .i64 a3, .int .i64 a4, .int .i64 a5], .agg #[.int .i64 u, .int .i64 v, .int .i64 b0, .int .i64 b1, .int .i64 b2, .int .i64 b3, .int .i64 b4, .int .i64 b5]] w fun e w' => e = .returned (.bool (eqState x y a0 a1 a2 a3 a4 a5 u v b0 b1 b2 b3 b4 b5)) ∧ Below w.heap.size w w' := by
  have HD := Go.Lib.hid (fun W => eqDie_walk a0 a1 a2 a3 a4 a5 b0 b1 b2 b3 b4 b5 W)
  by_cases h0 : x = u
  case neg =>
    have q1 : (x == u) = false := beq_eq_false_iff_ne.mpr h0
    have q2 : (x != u) = true := bne_iff_ne.mpr h0
    go_enter Tryd.func19, Tryd.ntmps19
    go_wp2_with fail
    go_ret
    exact ⟨by simp [eqState, q1], ((Below.refl _ w).alloc (Nat.le_refl _) _).alloc (by simp) _⟩
  subst h0
  by_cases h1 : y = v
  case neg =>
    have q1 : (y == v) = false := beq_eq_false_iff_ne.mpr h1
    have q2 : (y != v) = true := bne_iff_ne.mpr h1
    go_enter Tryd.func19, Tryd.ntmps19
    go_wp2_with fail
    go_ret
    exact ⟨by simp [eqState, q1], ((Below.refl _ w).alloc (Nat.le_refl _) _).alloc (by simp) _⟩
  subst h1
  obtain ⟨r, hr⟩ : ∃ r, r = eqDie a0 a1 a2 a3 a4 a5 b0 b1 b2 b3 b4 b5 := ⟨_, rfl⟩
  rw [← hr] at HD
  have HR := Go.Lib.hid hr
  clear hr
  go_enter Tryd.func19, Tryd.ntmps19
  go_wp2_with fail
  refine (HD.out _).mono ?_
  rintro e w1 ⟨rfl, hb⟩
  have HB := Go.Lib.hid (below_then (((Below.refl _ w).alloc (Nat.le_refl _) _).alloc (by simp) _) (by simp; omega) hb)
  clear hb
  cases r with
  | true =>
    go_wp2_with fail
    go_ret
    exact ⟨by simp [eqState, ← HR.out], HB.out⟩
  | false =>
    go_wp2_with fail
    go_ret
    exact ⟨by simp [eqState, ← HR.out], HB.out⟩
end Go.Proofs.YtkmkanpikhnmbaaDoor.Eqs
