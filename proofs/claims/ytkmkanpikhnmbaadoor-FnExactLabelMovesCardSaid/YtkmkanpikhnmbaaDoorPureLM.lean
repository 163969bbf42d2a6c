/- The plain law on LabelMoves. Conditions: none but that a text has at most 2^47 bytes. -/
import Derived.Test.YtkmkanpikhnmbaaDoorQCLabelMovesx
import Derived.Test.YtkmkanpikhnmbaaDoorBaseL
namespace Go.Proofs.YtkmkanpikhnmbaaDoor.PureLM
open Go.RowKit Go.Proofs.YtkmkanpikhnmbaaDoor.QCLabelMoves Go.Proofs.YtkmkanpikhnmbaaDoorW.PrintWords Go.Proofs.YtkmkanpikhnmbaaDoorW.PrintLast Go.Proofs.YtkmkanpikhnmbaaDoor.Board Go.Proofs.YtkmkanpikhnmbaaDoor.IsDie Go.Proofs.YtkmkanpikhnmbaaDoor.BaseL
open Go.Proofs.YtkmkanpikhnmbaaDoor.Dice (Die roll)
open Go.Proofs.YtkmkanpikhnmbaaDoor.ByteRow (unlab)
open Go.Proofs.YtkmkanpikhnmbaaDoor.Dirs (dirOf tup dirs dirs_length)
open Go.Proofs.YtkmkanpikhnmbaaDoor.Words (letters dirOf_lt isW isW_at dirs_at goodWord good_small)
set_option linter.unusedVariables false
set_option linter.unusedSimpArgs false

/-- Is there a state on a labelled board? -/
def askB (s : ByteArray) (x y a0 a1 a2 a3 a4 a5 : Int) : Bool := isB okL s.data.toList && stateB (s.data.toList.map unlab) x y a0 a1 a2 a3 a4 a5
theorem prAsked_at (s : ByteArray) (x y a0 a1 a2 a3 a4 a5 : Int) (k : Nat) (hk : 3 * s.size + 10 < k) : ∃ r, spec_prAsked.f k s x y a0 a1 a2 a3 a4 a5 = some r ∧ r.2.2.2.2 = askB s x y a0 a1 a2 a3 a4 a5 ∧
    (askB s x y a0 a1 a2 a3 a4 a5 = true → r = ((wide s.data.toList : Int), (high s.data.toList : Int), ints (cells (s.data.toList.map unlab)), ints (cells s.data.toList), true)) := by
  obtain ⟨r, h1, h2, h3⟩ := prRead_at s k hk
  unfold spec_prAsked.f askB
  simp only [spec_prRead.f]
  rw [h1, Option.bind_some]
  cases hb : isB okL s.data.toList with
  | false =>
    rw [hb] at h2
    rw [if_neg (by rw [h2]; decide)]
    exact ⟨_, rfl, rfl, fun h => by cases h⟩
  | true =>
    rw [hb] at h2
    obtain rfl := h3 hb
    have hs := boState_eq _ (plainB (isB_iff.1 hb)) x y a0 a1 a2 a3 a4 a5 k (by omega)
    rw [wide_map, high_map] at hs
    rw [if_pos rfl]
    simp only [spec_boState.f]
    rw [hs, Option.bind_some, Bool.true_and]
    exact ⟨_, rfl, rfl, fun h => by rw [h]⟩
theorem onLabels_at (s : ByteArray) (hs : s.size ≤ 1048576) (x y a0 a1 a2 a3 a4 a5 : Int) (k : Nat) (hk : s.size + 2 < k) :
    ∃ g, impl_onLabels.f k s x y a0 a1 a2 a3 a4 a5 = some (g, askB s x y a0 a1 a2 a3 a4 a5) ∧ (askB s x y a0 a1 a2 a3 a4 a5 = true → g = gridOf s) := by
  obtain ⟨g, h1, h2⟩ := labelled_at s hs k hk
  refine ⟨g, ?_, fun h => h2 ?_⟩
  · unfold impl_onLabels.f askB
    simp only [impl_labelled.f]
    rw [h1, Option.bind_some]
    cases hb : isB okL s.data.toList with
    | false => rfl
    | true =>
      obtain rfl := h2 hb
      have hp : IsB okB (ReadLab.plainText s).data.toList := by
        rw [plain_list]
        exact (plainB (isB_iff.1 hb))
      have q := isState_eq (ReadLab.plainText s) hp x y a0 a1 a2 a3 a4 a5
      rw [plain_list] at q
      rw [if_pos rfl]
      simp only [impl_grid_floor.f, impl_grid_isState.f]
      rw [floor_at s (isB_iff.1 hb), Option.bind_some, q]
      rfl
  · unfold askB at h
    rw [Bool.and_eq_true] at h
    exact h.1
theorem ask_parts {s : ByteArray} {x y a0 a1 a2 a3 a4 a5 : Int} (h : askB s x y a0 a1 a2 a3 a4 a5 = true) : IsB okL s.data.toList ∧ hasB s.data.toList x y = true ∧ ((0 ≤ x ∧ x < 7) ∧ (0 ≤ y ∧ y < 7)) := by
  unfold askB at h
  rw [Bool.and_eq_true] at h
  have hi := isB_iff.1 h.1
  have h2 := h.2
  refine ⟨hi, ?_, state_in (plainB hi) h2⟩
  unfold stateB at h2
  rw [Bool.and_eq_true] at h2
  rw [← has_map]
  exact floor_has h2.1

/-- A state over labels: its cell, and whether it can be rolled and matches then. -/
def mB (l : List UInt8) (t : Reach.St) : Bool := matchB l t.x t.y t.d.t
def canL (l : List UInt8) (t : Reach.St) (k : Nat) : Bool := canB (l.map unlab) t k && mB l (moved t k)
theorem can_has {l : List UInt8} {t : Reach.St} {k : Nat} (h : canB (l.map unlab) t k = true) : hasB l (moved t k).x (moved t k).y = true := by
  rw [← has_map]
  exact floor_has h
theorem prRoll_eq (l : List UInt8) (h : IsB okL l) (t : Reach.St) (hx : 0 ≤ t.x ∧ t.x < 7) (hy : 0 ≤ t.y ∧ t.y < 7) (k : Nat) (hk : k < 4) :
    spec_prRoll.f (wide l) (high l) (ints (cells (l.map unlab))) (ints (cells l)) t.x t.y t.d.t t.d.n t.d.e t.d.s t.d.w t.d.b k = some (if canL l t k = true then flat (moved t k) true else zero9) := by
  have q := boRoll_eq _ (plainB h) t hx hy k hk
  rw [wide_map, high_map] at q
  unfold spec_prRoll.f canL
  simp only [spec_boRoll.f, spec_prMatch.f]
  rw [q, Option.bind_some]
  cases hc : canB (l.map unlab) t k with
  | false => rfl
  | true =>
    rw [if_pos rfl, if_pos rfl]
    simp only
    rw [prMatch_eq l h _ _ _ _ _ _ _ _ _ (can_has hc), Option.bind_some, Bool.true_and]
    show (if matchB l (moved t k).x (moved t k).y (moved t k).d.t = true then _ else _) = _
    unfold mB
    cases matchB l (moved t k).x (moved t k).y (moved t k).d.t <;> rfl
theorem over_eq (s : ByteArray) (h : IsB okL s.data.toList) (t : Reach.St) (hx : 0 ≤ t.x ∧ t.x < 7) (hy : 0 ≤ t.y ∧ t.y < 7) (c : Int) :
    impl_grid_over.f (gridOf s) t.x t.y t.d.t t.d.n t.d.e t.d.s t.d.w t.d.b c = some (flat (moved t (dirOf c)) (canL s.data.toList t (dirOf c) && mB s.data.toList t)) := by
  have hp : IsB okB (ReadLab.plainText s).data.toList := by
    rw [plain_list]
    exact (plainB h)
  have q := gridRoll_eq (ReadLab.plainText s) hp t hx hy c
  rw [plain_list] at q
  unfold impl_grid_over.f canL
  simp only [impl_grid_floor.f, impl_grid_roll.f, impl_grid_matches.f]
  rw [floor_at s h, Option.bind_some, q, Option.bind_some]
  cases hc : canB (s.data.toList.map unlab) t (dirOf c) with
  | false => rfl
  | true =>
    rw [if_pos rfl, matches_eq s h, Option.bind_some]
    unfold mB
    cases hm : matchB s.data.toList t.x t.y t.d.t with
    | false => simp
    | true =>
      rw [if_pos rfl]
      simp only
      rw [matches_eq s h, Option.bind_some]
      simp

theorem moves_l0 (s : ByteArray) (hi : IsB okL s.data.toList) (t : Reach.St) (hx : 0 ≤ t.x ∧ t.x < 7) (hy : 0 ≤ t.y ∧ t.y < 7) (hb : hasB s.data.toList t.x t.y = true) : ∀ (n i k : Nat) (acc : ByteArray), i + n = 4 → n < k → acc.size ≤ i →
    ∃ r, spec_LabelMoves.l0 k (ints (cells s.data.toList)) acc i t.x t.y t.d.t t.d.n t.d.e t.d.s t.d.w t.d.b (wide s.data.toList) (high s.data.toList) (ints (cells (s.data.toList.map unlab))) = some (r, true) ∧
      impl_LabelMoves.l0 k (gridOf s) acc i t.x t.y t.d.t t.d.n t.d.e t.d.s t.d.w t.d.b = some (r, true) := by
  intro n
  induction n with
  | zero =>
    intro i k acc hi' hk ha
    obtain ⟨k, rfl⟩ : ∃ m, k = m + 1 := ⟨k - 1, by omega⟩
    exact ⟨acc, by rw [spec_LabelMoves.l0, if_neg (by omega)], by rw [impl_LabelMoves.l0, if_neg (by omega)]⟩
  | succ n ih =>
    intro i k acc hi' hk ha
    obtain ⟨k, rfl⟩ : ∃ m, k = m + 1 := ⟨k - 1, by omega⟩
    have h4 : i < 4 := by omega
    have hbt : dirOf (bt (⟨#[110, 101, 115, 119]⟩ : ByteArray) (i : Int)) = i := by
      rcases i with _ | _ | _ | _ | i
      · rfl
      · rfl
      · rfl
      · rfl
      · omega
    have he : ((⟨#[110, 101, 115, 119]⟩ : ByteArray).extract i (i + 1)).size = 1 := by
      rcases i with _ | _ | _ | _ | i
      · rfl
      · rfl
      · rfl
      · rfl
      · omega
    have h44 : (((⟨#[110, 101, 115, 119]⟩ : ByteArray).size : Nat) : Int) = 4 := rfl
    have r2 := over_eq s hi t hx hy (bt (⟨#[110, 101, 115, 119]⟩ : ByteArray) (i : Int))
    rw [hbt] at r2
    rw [spec_LabelMoves.l0, impl_LabelMoves.l0, if_pos (by omega), if_pos (by omega), if_pos (by omega), prRoll_eq _ hi t hx hy i h4, r2, spec_diDirs.f, BaseL.up (by omega)]
    simp only [Option.bind_some]
    cases hc : canL s.data.toList t i with
    | false =>
      simp only [Bool.false_and, Bool.false_eq_true, if_false]
      exact ih (i + 1) k acc (by omega) (by omega) (by omega)
    | true =>
      simp only [if_true, Int.toNat_natCast, spec_prMatch.f]
      rw [prMatch_eq _ hi _ _ _ _ _ _ _ _ _ hb, Option.bind_some, Bool.true_and]
      show ∃ r, (if mB s.data.toList t = true then _ else _) = some (r, true) ∧ (if mB s.data.toList t = true then _ else _) = some (r, true)
      cases hm : mB s.data.toList t with
      | false =>
        simp only [Bool.false_eq_true, if_false]
        exact ih (i + 1) k acc (by omega) (by omega) (by omega)
      | true =>
        simp only [if_true]
        rw [h44, he, if_pos (by omega), if_pos (by omega), if_pos (by omega), if_pos (by omega)]
        obtain ⟨r, q1, q2⟩ := ih (i + 1) k (acc ++ (⟨#[110, 101, 115, 119]⟩ : ByteArray).extract i (i + 1)) (by omega) (by omega) (by rw [ByteArray.size_append, he]; omega)
        refine ⟨r, q1, ?_⟩
        rw [if_pos (by omega), if_pos (by omega), if_pos (by omega)]
        exact q2

theorem labelMoves (s : ByteArray) (x y a0 a1 a2 a3 a4 a5 : Int) : ∃ k, laws_FnExactLabelMoves.f k s x y a0 a1 a2 a3 a4 a5 = some true := by
  refine ⟨3 * s.size + 30, ?_⟩
  unfold laws_FnExactLabelMoves.f
  by_cases h : (s.size : Int) > 1048576
  · rw [if_pos h]
  · obtain ⟨g, h1, h2⟩ := onLabels_at s (by omega) x y a0 a1 a2 a3 a4 a5 (3 * s.size + 30) (by omega)
    obtain ⟨r, q1, q2, q3⟩ := prAsked_at s x y a0 a1 a2 a3 a4 a5 (3 * s.size + 30) (by omega)
    rw [if_neg h, laws_toState.f, laws_toDie.f]
    simp only [Option.bind_some]
    rw [spec_LabelMoves.f, impl_LabelMoves.f, q1, h1]
    simp only [Option.bind_some]
    cases ha : askB s x y a0 a1 a2 a3 a4 a5 with
    | false =>
      rw [ha] at q2
      rw [if_neg (by rw [q2]; decide)]
      simp
    | true =>
      obtain rfl := h2 ha
      obtain rfl := q3 ha
      obtain ⟨hi, hb, hx, hy⟩ := ask_parts ha
      obtain ⟨r, p1, p2⟩ := moves_l0 s hi ⟨x, y, ⟨a0, a1, a2, a3, a4, a5⟩⟩ hx hy hb 4 0 (3 * s.size + 30) ⟨#[]⟩ (by omega) (by omega) (by decide)
      simp only at p1 p2
      rw [if_pos rfl, if_pos rfl]
      rw [show spec_LabelMoves.l0 (3 * s.size + 30) _ ⟨#[]⟩ 0 _ _ _ _ _ _ _ _ _ _ _ = _ from p1, show impl_LabelMoves.l0 (3 * s.size + 30) (gridOf s) ⟨#[]⟩ 0 _ _ _ _ _ _ _ _ = _ from p2]
      simp
end Go.Proofs.YtkmkanpikhnmbaaDoor.PureLM
