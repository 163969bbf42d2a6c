/- The plain law on IsLabelled. Conditions: none but that a text has at most 2^47 bytes. -/
import Derived.Test.YtkmkanpikhnmbaaDoorQCIsLabelledx
import Derived.Test.YtkmkanpikhnmbaaDoorBaseL
namespace Go.Proofs.YtkmkanpikhnmbaaDoor.PureIL
open Go.RowKit Go.Proofs.YtkmkanpikhnmbaaDoor.QCIsLabelled Go.Proofs.YtkmkanpikhnmbaaDoorW.PrintWords Go.Proofs.YtkmkanpikhnmbaaDoorW.PrintLast Go.Proofs.YtkmkanpikhnmbaaDoor.Board Go.Proofs.YtkmkanpikhnmbaaDoor.IsDie Go.Proofs.YtkmkanpikhnmbaaDoor.BaseL
open Go.Proofs.YtkmkanpikhnmbaaDoor.Dice (Die roll)
open Go.Proofs.YtkmkanpikhnmbaaDoor.ByteRow (unlab)
open Go.Proofs.YtkmkanpikhnmbaaDoor.Dirs (dirOf tup dirs dirs_length)
open Go.Proofs.YtkmkanpikhnmbaaDoor.Words (letters dirOf_lt isW isW_at dirs_at goodWord good_small)
set_option linter.unusedVariables false
set_option linter.unusedSimpArgs false

theorem isLabelled (s : ByteArray) : ∃ k, laws_FnExactIsLabelled.f k s = some true := by
  refine ⟨3 * s.size + 30, ?_⟩
  unfold laws_FnExactIsLabelled.f
  by_cases h : (s.size : Int) > 1048576
  · rw [if_pos h]
  · obtain ⟨g, h1, _⟩ := labelled_at s (by omega) (3 * s.size + 30) (by omega)
    obtain ⟨r, q1, q2, _⟩ := prRead_at s (3 * s.size + 30) (by omega)
    rw [if_neg h, spec_IsLabelled.f, impl_IsLabelled.f]
    simp only [spec_prRead.f, impl_labelled.f]
    rw [q1, h1]
    simp [q2]
end Go.Proofs.YtkmkanpikhnmbaaDoor.PureIL
