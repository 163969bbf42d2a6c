/- What is trimmed to nothing has bytes of the set alone. Plain lemmas, no program in sight. -/
import Derived.Test.YtolopkjpodnmkaaDoorRows
import Derived.Lib.SlTrimSet
namespace Go.Proofs.YtolopkjpodnmkaaDoor.Trim
set_option linter.unusedVariables false
theorem dropWhile_nil {α : Type} (p : α → Bool) : ∀ (l : List α), l.dropWhile p = [] ↔ l.all p = true
  | [] => by simp
  | a :: l => by
    rw [List.dropWhile_cons, List.all_cons]
    by_cases h : p a = true
    · rw [if_pos h, dropWhile_nil p l, h]
      simp
    · rw [if_neg h]
      simp [h]
theorem all_dropWhile_end {α : Type} (p : α → Bool) (l : List α) : (l.reverse.dropWhile p).reverse.all p = l.all p := by
  rw [Bool.eq_iff_iff, List.all_reverse]
  constructor
  · intro h
    have h3 : l.reverse.dropWhile p = [] := by
      rcases hl : l.reverse.dropWhile p with _ | ⟨a, m⟩
      · rfl
      · exfalso
        have h4 : p a = false := by
          have := List.head?_dropWhile_not p l.reverse
          rw [hl] at this
          simpa using this
        rw [hl] at h
        simp [h4] at h
    have := (dropWhile_nil p l.reverse).1 h3
    rwa [List.all_reverse] at this
  · intro h
    have : l.reverse.dropWhile p = [] := (dropWhile_nil p l.reverse).2 (by rw [List.all_reverse]; exact h)
    rw [this]
    rfl
theorem trim_nil (l cs : List UInt8) : (Go.Lib.trimS l cs = []) ↔ (l.all fun c => cs.contains c) = true := by
  unfold Go.Lib.trimS Go.Lib.trimLeftS Go.Lib.trimRightS
  rw [dropWhile_nil, all_dropWhile_end]
end Go.Proofs.YtolopkjpodnmkaaDoor.Trim
