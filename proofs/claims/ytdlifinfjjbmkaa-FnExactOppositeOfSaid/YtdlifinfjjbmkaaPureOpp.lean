/- The plain law on OppositeOf: both Opposite.look for the one face with the number. Conditions: none. -/
import Derived.Test.YtdlifinfjjbmkaaQOppx
import Derived.Test.YtdlifinfjjbmkaaOpposite
namespace Go.Proofs.Ytdlifinfjjbmkaa.PureOpp
open Go.RowKit Go.Proofs.Ytdlifinfjjbmkaa.QOpp Go.Proofs.YtdlifinfjjbmkaaW.PrintWords Go.Proofs.YtdlifinfjjbmkaaW.PrintLast Go.Proofs.Ytdlifinfjjbmkaa.IsDie Go.Proofs.Ytdlifinfjjbmkaa.Opposite
set_option linter.unusedVariables false
set_option linter.unusedSimpArgs false

theorem succ_wrap {i : Nat} (h : i < 1000000) : wrap64 ((i : Int) + 1) = ((i + 1 : Nat) : Int) := by
  unfold wrap64
  omega

theorem l1In_eq (n : Int) : spec_l1In.f n 0 9 = some (inB n) := by
  unfold spec_l1In.f inB
  by_cases h : 0 ≤ n
  · rw [if_pos h]
    simp [h]
  · rw [if_neg h]
    simp [h]
theorem all_at (xs : List Int) (hl : xs.length ≤ 1000) : ∀ (d i k : Nat), i + d = xs.length → d < k → spec_l1All.l0 k 0 9 xs xs.length i = some ((xs.drop i).all inB) := by
  intro d
  induction d with
  | zero =>
    intro i k hi hk
    obtain ⟨k, rfl⟩ : ∃ m, k = m + 1 := ⟨k - 1, by omega⟩
    rw [spec_l1All.l0, if_neg (by omega), List.drop_eq_nil_of_le (by omega)]
    rfl
  | succ d ih =>
    intro i k hi hk
    obtain ⟨k, rfl⟩ : ∃ m, k = m + 1 := ⟨k - 1, by omega⟩
    have hlt : i < xs.length := by omega
    rw [spec_l1All.l0, if_pos (by omega), if_pos (by omega), if_pos (by omega), l1In_eq]
    simp only [Option.bind_some]
    rw [List.drop_eq_getElem_cons hlt, List.all_cons]
    have hr : rd xs i = xs[i] := by simp [rd, hlt]
    rw [hr]
    cases inB xs[i] with
    | true =>
      rw [if_pos rfl, succ_wrap (by omega), ih (i + 1) k (by omega) (by omega)]
      simp
    | false => simp
theorem diGood_at (a0 a1 a2 a3 a4 a5 : Int) (k : Nat) (hk : 7 ≤ k) : spec_diGood.f k a0 a1 a2 a3 a4 a5 = some (good a0 a1 a2 a3 a4 a5) := by
  unfold spec_diGood.f spec_diFaces.f spec_l1All.f
  simp only [Option.bind_some]
  have := all_at [a0, a1, a2, a3, a4, a5] (by simp) 6 0 k (by simp) (by omega)
  simp only [Int.natCast_zero, List.drop_zero] at this
  rw [this]
  rfl

theorem across (p : Nat) (hp : p < 6) : spec_diAcross.f p = some ((opp p : Nat) : Int) := by
  rcases p with _ | _ | _ | _ | _ | _ | p
  · rfl
  · simp [spec_diAcross.f, opp, wrap64]
  · simp [spec_diAcross.f, opp, wrap64]
  · simp [spec_diAcross.f, opp, wrap64]
  · simp [spec_diAcross.f, opp, wrap64]
  · simp [spec_diAcross.f, opp, wrap64]
  · omega
theorem opp_lt (p : Nat) : opp p < 6 := by unfold opp; (repeat' split) <;> omega

theorem sl0 (a0 a1 a2 a3 a4 a5 x : Int) : ∀ (n i k p c : Nat), i + n = 6 → n < k → p < 6 → (Opposite.look [a0, a1, a2, a3, a4, a5] x i).2 = c → (0 < c → (Opposite.look [a0, a1, a2, a3, a4, a5] x i).1 = ([a0, a1, a2, a3, a4, a5] : List Int).getD (opp p) 0) →
    spec_OppositeOf.l0 k x p c [a0, a1, a2, a3, a4, a5] (([a0, a1, a2, a3, a4, a5] : List Int).length : Int) i a0 a1 a2 a3 a4 a5 =
      some (if (Opposite.look [a0, a1, a2, a3, a4, a5] x 6).2 = 1 then ((Opposite.look [a0, a1, a2, a3, a4, a5] x 6).1, true) else (0, false)) := by
  obtain ⟨f, hf⟩ : ∃ f : List Int, f = [a0, a1, a2, a3, a4, a5] := ⟨_, rfl⟩
  have hl : f.length = 6 := by rw [hf]; rfl
  have hff : spec_diFaces.f a0 a1 a2 a3 a4 a5 = some f := by rw [hf]; rfl
  rw [← hf]
  clear hf
  intro n
  induction n with
  | zero =>
    intro i k p c hi hk hp hc h1
    obtain ⟨k, rfl⟩ : ∃ m, k = m + 1 := ⟨k - 1, by omega⟩
    obtain rfl : i = 6 := by omega
    rw [spec_OppositeOf.l0, if_neg (by omega)]
    by_cases e : c = 1
    · rw [if_pos (by omega), hff, Option.bind_some, across p hp, Option.bind_some, if_pos (by omega), if_pos (by have := opp_lt p; omega), if_pos (by omega), h1 (by omega)]
      simp [rd]
    · rw [if_neg (by omega), if_neg (by omega)]
  | succ n ih =>
    intro i k p c hi hk hp hc h1
    obtain ⟨k, rfl⟩ : ∃ m, k = m + 1 := ⟨k - 1, by omega⟩
    have hle := look_le f x i
    rw [spec_OppositeOf.l0, if_pos (by omega), if_pos (by omega), if_pos (by omega)]
    have hr : rd f i = f.getD i 0 := rfl
    rw [hr]
    by_cases hx : f.getD i 0 = x
    · rw [if_pos hx, succ_wrap (by omega), succ_wrap (by omega)]
      refine ih (i + 1) k i (c + 1) (by omega) (by omega) (by omega) ?_ (fun _ => ?_)
      · rw [Opposite.look, if_pos hx, hc]
      · rw [Opposite.look, if_pos hx]
    · rw [if_neg hx, succ_wrap (by omega)]
      refine ih (i + 1) k p c (by omega) (by omega) hp ?_ (fun h0 => ?_)
      · rw [Opposite.look, if_neg hx, hc]
      · rw [Opposite.look, if_neg hx]
        exact h1 h0

theorem oppositeOf (a0 a1 a2 a3 a4 a5 x : Int) : ∃ k, laws_FnExactOppositeOf.f k a0 a1 a2 a3 a4 a5 x = some true := by
  refine ⟨7, ?_⟩
  have hs : spec_OppositeOf.f 7 a0 a1 a2 a3 a4 a5 x = some (oppSays a0 a1 a2 a3 a4 a5 x) := by
    have h0 := sl0 a0 a1 a2 a3 a4 a5 x 6 0 7 0 0 (by omega) (by omega) (by omega) rfl (fun h => by omega)
    rw [spec_OppositeOf.f, diGood_at _ _ _ _ _ _ 7 (by omega), Option.bind_some, oppSays]
    cases good a0 a1 a2 a3 a4 a5 with
    | true =>
      rw [if_pos rfl, if_pos rfl, spec_diFaces.f, Option.bind_some]
      exact h0
    | false => rw [if_neg (by decide), if_neg (by decide)]
  simp only [laws_FnExactOppositeOf.f, laws_toDie.f, Option.bind_some, hs, impl_OppositeOf.f]
  simp
end Go.Proofs.Ytdlifinfjjbmkaa.PureOpp
