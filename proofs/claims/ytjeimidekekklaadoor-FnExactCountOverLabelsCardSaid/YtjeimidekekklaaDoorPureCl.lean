/- Plain law: the count of states that are reached over labels is the reference's. Conditions: none. -/
import Derived.Test.YtjeimidekekklaaDoorQClx
import Derived.Test.YtjeimidekekklaaDoorPrAll
import Derived.Test.YtjeimidekekklaaDoorCountL
namespace Go.Proofs.YtjeimidekekklaaDoor.PureCl
open Go.RowKit Go.Proofs.YtjeimidekekklaaDoor.QCl Go.Proofs.YtjeimidekekklaaDoor.Board Go.Proofs.YtjeimidekekklaaDoor.BaseM Go.Proofs.YtjeimidekekklaaDoor.SearchG Go.Proofs.YtjeimidekekklaaDoor.CountL
open Go.Proofs.YtjeimidekekklaaDoor.ByteRow (unlab)
set_option linter.unusedVariables false
set_option linter.unusedSimpArgs false

theorem prAsked_at (s : ByteArray) (x y a0 a1 a2 a3 a4 a5 : Int) (k : Nat) (hk : 3 * s.size + 10 < k) : ∃ r, spec_prAsked.f k s x y a0 a1 a2 a3 a4 a5 = some r ∧ r.2.2.2.2 = askB s x y a0 a1 a2 a3 a4 a5 ∧
  (askB s x y a0 a1 a2 a3 a4 a5 = true → r = ((wide s.data.toList : Int), (high s.data.toList : Int), ints (cells (s.data.toList.map unlab)), ints (cells s.data.toList), true)) := by
 obtain ⟨r, h1, h2, h3⟩ := prRead_at s k hk
 unfold spec_prAsked.f askB
 simp only [spec_prRead.f]
 rw [h1, Option.bind_some]
 cases hb : isB okL s.data.toList with
 | false =>
  rw [hb] at h2
  rw [if_neg (by rw [h2]; decide)]
  exact ⟨_, rfl, rfl, fun h => by cases h⟩
 | true =>
  rw [hb] at h2
  obtain rfl := h3 hb
  have hs := boState_eq _ (plainB (isB_iff.1 hb)) x y a0 a1 a2 a3 a4 a5 k (by omega)
  rw [wide_map, high_map] at hs
  rw [if_pos rfl]
  simp only [spec_boState.f]
  rw [hs, Option.bind_some, Bool.true_and]
  exact ⟨_, rfl, rfl, fun h => by rw [h]⟩
theorem countOver (s : ByteArray) (x y a0 a1 a2 a3 a4 a5 : Int) : ∃ k, laws_FnExactCountOverLabels.f k s x y a0 a1 a2 a3 a4 a5 = some true := by
 refine ⟨3 * s.size + 16000, ?_⟩
 unfold laws_FnExactCountOverLabels.f
 by_cases h : (s.size : Int) > 1048576
 ·rw [if_pos h]
 ·obtain ⟨r, q1, q2, q3⟩ := prAsked_at s x y a0 a1 a2 a3 a4 a5 (3 * s.size + 16000) (by omega)
  rw [if_neg h, laws_toState.f]
  simp only [Option.bind_some]
  rw [spec_CountOverLabels.f, impl_CountOverLabels.f, q1, if_pos (show s.size ≤ 1048576 by omega)]
  simp only [Option.bind_some]
  have hal : askL s ⟨x, y, ⟨a0, a1, a2, a3, a4, a5⟩⟩ = askB s x y a0 a1 a2 a3 a4 a5 := rfl
  unfold cntL
  rw [hal]
  cases ha : askB s x y a0 a1 a2 a3 a4 a5 with
  | false =>
   rw [ha] at q2
   rw [if_neg (by rw [q2]; decide)]
   simp
  | true =>
   obtain rfl := q3 ha
   obtain ⟨hi, hh, _, _⟩ := ask_parts ha
   rw [if_pos rfl]
   simp only [spec_prMatch.f]
   rw [prMatch_eq _ hi _ _ _ _ _ _ _ _ _ hh, Option.bind_some]
   cases hm : matchB s.data.toList x y a0 with
   | false =>
    have hmb : mB s.data.toList ⟨x, y, ⟨a0, a1, a2, a3, a4, a5⟩⟩ = false := hm
    rw [hmb]
    simp
   | true =>
    have hmb : mB s.data.toList ⟨x, y, ⟨a0, a1, a2, a3, a4, a5⟩⟩ = true := hm
    obtain ⟨_, hgd⟩ := ask_gd (t := ⟨x, y, ⟨a0, a1, a2, a3, a4, a5⟩⟩) ha hmb
    have hp := PrAll.prAll_eq hi hgd (3 * s.size + 16000) (by omega)
    simp only at hp
    rw [hmb, if_pos rfl, if_pos rfl, if_pos rfl]
    simp only [spec_prAll.f]
    rw [hp, Option.bind_some, List.length_map]
    simp
end Go.Proofs.YtjeimidekekklaaDoor.PureCl
