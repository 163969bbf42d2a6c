/- Plain laws on IsDie, MirrorDie, DieText and TurnDie: the program's answers are the reference's. Conditions: none. -/
import Derived.Test.YtdlifinfjjbmkaaQSmallx
namespace Go.Proofs.Ytdlifinfjjbmkaa.PureSmall
open Go.RowKit Go.Proofs.Ytdlifinfjjbmkaa.QSmall Go.Proofs.YtdlifinfjjbmkaaW.PrintWords Go.Proofs.YtdlifinfjjbmkaaW.PrintLast Go.Proofs.Ytdlifinfjjbmkaa.IsDie
set_option linter.unusedVariables false
set_option linter.unusedSimpArgs false

theorem l1In_eq (n : Int) : spec_l1In.f n 0 9 = some (inB n) := by
  unfold spec_l1In.f inB
  by_cases h : 0 ≤ n
  · rw [if_pos h]
    simp [h]
  · rw [if_neg h]
    simp [h]

theorem all_at (xs : List Int) (hl : xs.length ≤ 1000) : ∀ (d i k : Nat), i + d = xs.length → d < k → spec_l1All.l0 k 0 9 xs xs.length i = some ((xs.drop i).all inB) := by
  intro d
  induction d with
  | zero =>
    intro i k hi hk
    obtain ⟨k, rfl⟩ : ∃ m, k = m + 1 := ⟨k - 1, by omega⟩
    rw [spec_l1All.l0, if_neg (by omega), List.drop_eq_nil_of_le (by omega)]
    rfl
  | succ d ih =>
    intro i k hi hk
    obtain ⟨k, rfl⟩ : ∃ m, k = m + 1 := ⟨k - 1, by omega⟩
    have hlt : i < xs.length := by omega
    have hw : wrap64 ((i : Int) + 1) = ((i + 1 : Nat) : Int) := by
      unfold wrap64
      omega
    rw [spec_l1All.l0, if_pos (by omega), if_pos (by omega), if_pos (by omega), l1In_eq]
    simp only [Option.bind_some]
    rw [List.drop_eq_getElem_cons hlt, List.all_cons]
    have hr : rd xs i = xs[i] := by simp [rd, hlt]
    rw [hr]
    cases inB xs[i] with
    | true =>
      rw [if_pos rfl, hw, ih (i + 1) k (by omega) (by omega)]
      simp
    | false => simp

theorem diGood_at (a0 a1 a2 a3 a4 a5 : Int) (k : Nat) (hk : 7 ≤ k) : spec_diGood.f k a0 a1 a2 a3 a4 a5 = some (good a0 a1 a2 a3 a4 a5) := by
  unfold spec_diGood.f spec_diFaces.f spec_l1All.f
  simp only [Option.bind_some]
  have := all_at [a0, a1, a2, a3, a4, a5] (by simp) 6 0 k (by simp) (by omega)
  simp only [Int.natCast_zero, List.drop_zero] at this
  rw [this]
  rfl

theorem eqSelf (a b c d e f : Int) : laws_eqDie.f a b c d e f a b c d e f = some true := by
  simp [laws_eqDie.f]

theorem isDie (a0 a1 a2 a3 a4 a5 : Int) : ∃ k, laws_FnExactIsDie.f k a0 a1 a2 a3 a4 a5 = some true := by
  refine ⟨7, ?_⟩
  simp [laws_FnExactIsDie.f, laws_toDie.f, spec_IsDie.f, diGood_at, impl_IsDie.f]

theorem mirrorDie (a0 a1 a2 a3 a4 a5 : Int) : ∃ k, laws_FnExactMirrorDie.f k a0 a1 a2 a3 a4 a5 = some true := by
  refine ⟨7, ?_⟩
  simp only [laws_FnExactMirrorDie.f, laws_toDie.f, spec_MirrorDie.f, impl_MirrorDie.f, diGood_at, impl_IsDie.f, Nat.le_refl, Option.bind_some]
  cases good a0 a1 a2 a3 a4 a5 <;> simp [spec_diMirror.f, impl_Die_mirror.f, eqSelf]

/-- A die turned by so many quarters. -/
def turns : Nat → Int × Int × Int × Int × Int × Int → Int × Int × Int × Int × Int × Int
  | 0, d => d
  | n + 1, d => turns n (d.1, d.2.2.2.2.1, d.2.1, d.2.2.1, d.2.2.2.1, d.2.2.2.2.2)

theorem spec_turns : ∀ (n : Nat) (hn : n ≤ 3) (k : Nat) (d : Int × Int × Int × Int × Int × Int), n < k →
    spec_TurnDie.l0 k n d.1 d.2.1 d.2.2.1 d.2.2.2.1 d.2.2.2.2.1 d.2.2.2.2.2 = some ((turns n d).1, (turns n d).2.1, (turns n d).2.2.1, (turns n d).2.2.2.1, (turns n d).2.2.2.2.1, (turns n d).2.2.2.2.2, true)
  | 0, _, k, d, hk => by
    obtain ⟨k, rfl⟩ : ∃ m, k = m + 1 := ⟨k - 1, by omega⟩
    rw [spec_TurnDie.l0, if_neg (by simp)]
    rfl
  | n + 1, hn, k, d, hk => by
    obtain ⟨k, rfl⟩ : ∃ m, k = m + 1 := ⟨k - 1, by omega⟩
    have hw : wrap64 (((n + 1 : Nat) : Int) - 1) = (n : Int) := by
      unfold wrap64
      omega
    rw [spec_TurnDie.l0, if_pos (by omega), hw]
    simp only [spec_diTurn.f, Option.bind_some]
    exact spec_turns n (by omega) k (d.1, d.2.2.2.2.1, d.2.1, d.2.2.1, d.2.2.2.1, d.2.2.2.2.2) (by omega)

theorem impl_turns (m : Nat) (hm : m ≤ 3) : ∀ (n : Nat) (i : Nat), i + n = m → ∀ (k : Nat) (d : Int × Int × Int × Int × Int × Int), n < k →
    impl_TurnDie.l0 k m i d.1 d.2.1 d.2.2.1 d.2.2.2.1 d.2.2.2.2.1 d.2.2.2.2.2 = some ((turns n d).1, (turns n d).2.1, (turns n d).2.2.1, (turns n d).2.2.2.1, (turns n d).2.2.2.2.1, (turns n d).2.2.2.2.2, true)
  | 0, i, hi, k, d, hk => by
    obtain ⟨k, rfl⟩ : ∃ m, k = m + 1 := ⟨k - 1, by omega⟩
    rw [impl_TurnDie.l0, if_neg (by omega)]
    rfl
  | n + 1, i, hi, k, d, hk => by
    obtain ⟨k, rfl⟩ : ∃ m, k = m + 1 := ⟨k - 1, by omega⟩
    have hw : wrap64 ((i : Int) + 1) = ((i + 1 : Nat) : Int) := by
      unfold wrap64
      omega
    rw [impl_TurnDie.l0, if_pos (by omega), hw]
    simp only [impl_Die_turn.f, Option.bind_some]
    exact impl_turns m hm n (i + 1) (by omega) k (d.1, d.2.2.2.2.1, d.2.1, d.2.2.1, d.2.2.2.1, d.2.2.2.2.2) (by omega)

theorem l1In3 (n : Int) : spec_l1In.f n 0 3 = some (decide (0 ≤ n ∧ n ≤ 3)) := by
  unfold spec_l1In.f
  by_cases h : 0 ≤ n
  · rw [if_pos h]
    simp [h]
  · rw [if_neg h]
    simp [h]
theorem in3 (n : Int) : impl_in.f n 0 3 = some (decide (0 ≤ n ∧ n ≤ 3)) := by
  unfold impl_in.f
  by_cases h : 0 ≤ n
  · rw [if_pos h]
    simp [h]
  · rw [if_neg h]
    simp [h]

theorem turnDie (a0 a1 a2 a3 a4 a5 n : Int) : ∃ k, laws_FnExactTurnDie.f k a0 a1 a2 a3 a4 a5 n = some true := by
  refine ⟨8, ?_⟩
  have same : ∃ r, spec_TurnDie.f 8 a0 a1 a2 a3 a4 a5 n = some r ∧ impl_TurnDie.f 8 a0 a1 a2 a3 a4 a5 n = some r := by
    unfold spec_TurnDie.f impl_TurnDie.f
    rw [diGood_at _ _ _ _ _ _ _ (by omega), l1In3, in3]
    simp only [impl_IsDie.f, Option.bind_some]
    cases good a0 a1 a2 a3 a4 a5 with
    | false => exact ⟨(0, 0, 0, 0, 0, 0, false), by simp [spec_TurnDie.j0], by simp [impl_TurnDie.j0]⟩
    | true =>
      rw [if_pos rfl, if_pos rfl]
      by_cases h : 0 ≤ n ∧ n ≤ 3
      · obtain ⟨m, rfl⟩ := Int.eq_ofNat_of_zero_le h.1
        have h3 : m ≤ 3 := by omega
        refine ⟨((turns m (a0, a1, a2, a3, a4, a5)).1, (turns m (a0, a1, a2, a3, a4, a5)).2.1, (turns m (a0, a1, a2, a3, a4, a5)).2.2.1, (turns m (a0, a1, a2, a3, a4, a5)).2.2.2.1, (turns m (a0, a1, a2, a3, a4, a5)).2.2.2.2.1, (turns m (a0, a1, a2, a3, a4, a5)).2.2.2.2.2, true), ?_, ?_⟩
        · rw [spec_TurnDie.j0, if_neg (by simp [h])]
          exact spec_turns m h3 7 (a0, a1, a2, a3, a4, a5) (by omega)
        · rw [impl_TurnDie.j0, if_neg (by simp [h])]
          exact impl_turns m h3 m 0 (by omega) 7 (a0, a1, a2, a3, a4, a5) (by omega)
      · exact ⟨(0, 0, 0, 0, 0, 0, false), by rw [spec_TurnDie.j0, if_pos (by simp [h])], by rw [impl_TurnDie.j0, if_pos (by simp [h])]⟩
  obtain ⟨⟨b0, b1, b2, b3, b4, b5, b6⟩, h1, h2⟩ := same
  simp only [laws_FnExactTurnDie.f, laws_toDie.f, Option.bind_some, h1, h2, eqSelf]
  simp
end Go.Proofs.Ytdlifinfjjbmkaa.PureSmall
