/- The plain law on MatchesHere. Conditions: none but that a text has at most 2^47 bytes. -/
import Derived.Test.YtkmkanpikhnmbaaDoorQCMatchesHerex
import Derived.Test.YtkmkanpikhnmbaaDoorBaseL
namespace Go.Proofs.YtkmkanpikhnmbaaDoor.PureMH
open Go.RowKit Go.Proofs.YtkmkanpikhnmbaaDoor.QCMatchesHere Go.Proofs.YtkmkanpikhnmbaaDoorW.PrintWords Go.Proofs.YtkmkanpikhnmbaaDoorW.PrintLast Go.Proofs.YtkmkanpikhnmbaaDoor.Board Go.Proofs.YtkmkanpikhnmbaaDoor.IsDie Go.Proofs.YtkmkanpikhnmbaaDoor.BaseL
open Go.Proofs.YtkmkanpikhnmbaaDoor.Dice (Die roll)
open Go.Proofs.YtkmkanpikhnmbaaDoor.ByteRow (unlab)
open Go.Proofs.YtkmkanpikhnmbaaDoor.Dirs (dirOf tup dirs dirs_length)
open Go.Proofs.YtkmkanpikhnmbaaDoor.Words (letters dirOf_lt isW isW_at dirs_at goodWord good_small)
set_option linter.unusedVariables false
set_option linter.unusedSimpArgs false

/-- Is there a state on a labelled board? -/
def askB (s : ByteArray) (x y a0 a1 a2 a3 a4 a5 : Int) : Bool := isB okL s.data.toList && stateB (s.data.toList.map unlab) x y a0 a1 a2 a3 a4 a5
theorem prAsked_at (s : ByteArray) (x y a0 a1 a2 a3 a4 a5 : Int) (k : Nat) (hk : 3 * s.size + 10 < k) : ∃ r, spec_prAsked.f k s x y a0 a1 a2 a3 a4 a5 = some r ∧ r.2.2.2.2 = askB s x y a0 a1 a2 a3 a4 a5 ∧
    (askB s x y a0 a1 a2 a3 a4 a5 = true → r = ((wide s.data.toList : Int), (high s.data.toList : Int), ints (cells (s.data.toList.map unlab)), ints (cells s.data.toList), true)) := by
  obtain ⟨r, h1, h2, h3⟩ := prRead_at s k hk
  unfold spec_prAsked.f askB
  simp only [spec_prRead.f]
  rw [h1, Option.bind_some]
  cases hb : isB okL s.data.toList with
  | false =>
    rw [hb] at h2
    rw [if_neg (by rw [h2]; decide)]
    exact ⟨_, rfl, rfl, fun h => by cases h⟩
  | true =>
    rw [hb] at h2
    obtain rfl := h3 hb
    have hs := boState_eq _ (plainB (isB_iff.1 hb)) x y a0 a1 a2 a3 a4 a5 k (by omega)
    rw [wide_map, high_map] at hs
    rw [if_pos rfl]
    simp only [spec_boState.f]
    rw [hs, Option.bind_some, Bool.true_and]
    exact ⟨_, rfl, rfl, fun h => by rw [h]⟩
theorem onLabels_at (s : ByteArray) (hs : s.size ≤ 1048576) (x y a0 a1 a2 a3 a4 a5 : Int) (k : Nat) (hk : s.size + 2 < k) :
    ∃ g, impl_onLabels.f k s x y a0 a1 a2 a3 a4 a5 = some (g, askB s x y a0 a1 a2 a3 a4 a5) ∧ (askB s x y a0 a1 a2 a3 a4 a5 = true → g = gridOf s) := by
  obtain ⟨g, h1, h2⟩ := labelled_at s hs k hk
  refine ⟨g, ?_, fun h => h2 ?_⟩
  · unfold impl_onLabels.f askB
    simp only [impl_labelled.f]
    rw [h1, Option.bind_some]
    cases hb : isB okL s.data.toList with
    | false => rfl
    | true =>
      obtain rfl := h2 hb
      have hp : IsB okB (ReadLab.plainText s).data.toList := by
        rw [plain_list]
        exact (plainB (isB_iff.1 hb))
      have q := isState_eq (ReadLab.plainText s) hp x y a0 a1 a2 a3 a4 a5
      rw [plain_list] at q
      rw [if_pos rfl]
      simp only [impl_grid_floor.f, impl_grid_isState.f]
      rw [floor_at s (isB_iff.1 hb), Option.bind_some, q]
      rfl
  · unfold askB at h
    rw [Bool.and_eq_true] at h
    exact h.1
theorem ask_parts {s : ByteArray} {x y a0 a1 a2 a3 a4 a5 : Int} (h : askB s x y a0 a1 a2 a3 a4 a5 = true) : IsB okL s.data.toList ∧ hasB s.data.toList x y = true ∧ ((0 ≤ x ∧ x < 7) ∧ (0 ≤ y ∧ y < 7)) := by
  unfold askB at h
  rw [Bool.and_eq_true] at h
  have hi := isB_iff.1 h.1
  have h2 := h.2
  refine ⟨hi, ?_, state_in (plainB hi) h2⟩
  unfold stateB at h2
  rw [Bool.and_eq_true] at h2
  rw [← has_map]
  exact floor_has h2.1

theorem matchesHere (s : ByteArray) (x y a0 a1 a2 a3 a4 a5 : Int) : ∃ k, laws_FnExactMatchesHere.f k s x y a0 a1 a2 a3 a4 a5 = some true := by
  refine ⟨3 * s.size + 30, ?_⟩
  unfold laws_FnExactMatchesHere.f
  by_cases h : (s.size : Int) > 1048576
  · rw [if_pos h]
  · obtain ⟨g, h1, h2⟩ := onLabels_at s (by omega) x y a0 a1 a2 a3 a4 a5 (3 * s.size + 30) (by omega)
    obtain ⟨r, q1, q2, q3⟩ := prAsked_at s x y a0 a1 a2 a3 a4 a5 (3 * s.size + 30) (by omega)
    rw [if_neg h, laws_toState.f, laws_toDie.f]
    simp only [Option.bind_some]
    rw [spec_MatchesHere.f, impl_MatchesHere.f, q1, h1]
    simp only [Option.bind_some]
    cases ha : askB s x y a0 a1 a2 a3 a4 a5 with
    | false =>
      rw [ha] at q2
      rw [if_neg (by rw [q2]; decide)]
      simp
    | true =>
      obtain rfl := h2 ha
      obtain rfl := q3 ha
      obtain ⟨hi, hb, _⟩ := ask_parts ha
      rw [if_pos rfl, if_pos rfl]
      simp only [spec_prMatch.f, impl_grid_matches.f]
      rw [prMatch_eq _ hi _ _ _ _ _ _ _ _ _ hb, matches_eq s hi]
      simp
end Go.Proofs.YtkmkanpikhnmbaaDoor.PureMH
