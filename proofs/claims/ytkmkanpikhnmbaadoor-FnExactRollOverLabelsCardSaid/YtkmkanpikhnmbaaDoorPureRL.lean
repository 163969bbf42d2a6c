/- The plain law on RollOverLabels. Conditions: none but that a text has at most 2^47 bytes. -/
import Derived.Test.YtkmkanpikhnmbaaDoorQCRollOverLabelsx
import Derived.Test.YtkmkanpikhnmbaaDoorBaseL
namespace Go.Proofs.YtkmkanpikhnmbaaDoor.PureRL
open Go.RowKit Go.Proofs.YtkmkanpikhnmbaaDoor.QCRollOverLabels Go.Proofs.YtkmkanpikhnmbaaDoorW.PrintWords Go.Proofs.YtkmkanpikhnmbaaDoorW.PrintLast Go.Proofs.YtkmkanpikhnmbaaDoor.Board Go.Proofs.YtkmkanpikhnmbaaDoor.IsDie Go.Proofs.YtkmkanpikhnmbaaDoor.BaseL
open Go.Proofs.YtkmkanpikhnmbaaDoor.Split (mk)
open Go.Proofs.YtkmkanpikhnmbaaDoor.Dice (Die roll)
open Go.Proofs.YtkmkanpikhnmbaaDoor.ByteRow (unlab)
open Go.Proofs.YtkmkanpikhnmbaaDoor.Dirs (dirOf tup dirs dirs_length)
open Go.Proofs.YtkmkanpikhnmbaaDoor.Words (letters dirOf_lt isW isW_at dirs_at goodWord good_small)
set_option linter.unusedVariables false
set_option linter.unusedSimpArgs false

/-- Is there a state on a labelled board? -/
def askB (s : ByteArray) (x y a0 a1 a2 a3 a4 a5 : Int) : Bool := isB okL s.data.toList && stateB (s.data.toList.map unlab) x y a0 a1 a2 a3 a4 a5
theorem prAsked_at (s : ByteArray) (x y a0 a1 a2 a3 a4 a5 : Int) (k : Nat) (hk : 3 * s.size + 10 < k) : ∃ r, spec_prAsked.f k s x y a0 a1 a2 a3 a4 a5 = some r ∧ r.2.2.2.2 = askB s x y a0 a1 a2 a3 a4 a5 ∧
    (askB s x y a0 a1 a2 a3 a4 a5 = true → r = ((wide s.data.toList : Int), (high s.data.toList : Int), ints (cells (s.data.toList.map unlab)), ints (cells s.data.toList), true)) := by
  obtain ⟨r, h1, h2, h3⟩ := prRead_at s k hk
  unfold spec_prAsked.f askB
  simp only [spec_prRead.f]
  rw [h1, Option.bind_some]
  cases hb : isB okL s.data.toList with
  | false =>
    rw [hb] at h2
    rw [if_neg (by rw [h2]; decide)]
    exact ⟨_, rfl, rfl, fun h => by cases h⟩
  | true =>
    rw [hb] at h2
    obtain rfl := h3 hb
    have hs := boState_eq _ (plainB (isB_iff.1 hb)) x y a0 a1 a2 a3 a4 a5 k (by omega)
    rw [wide_map, high_map] at hs
    rw [if_pos rfl]
    simp only [spec_boState.f]
    rw [hs, Option.bind_some, Bool.true_and]
    exact ⟨_, rfl, rfl, fun h => by rw [h]⟩
theorem onLabels_at (s : ByteArray) (hs : s.size ≤ 1048576) (x y a0 a1 a2 a3 a4 a5 : Int) (k : Nat) (hk : s.size + 2 < k) :
    ∃ g, impl_onLabels.f k s x y a0 a1 a2 a3 a4 a5 = some (g, askB s x y a0 a1 a2 a3 a4 a5) ∧ (askB s x y a0 a1 a2 a3 a4 a5 = true → g = gridOf s) := by
  obtain ⟨g, h1, h2⟩ := labelled_at s hs k hk
  refine ⟨g, ?_, fun h => h2 ?_⟩
  · unfold impl_onLabels.f askB
    simp only [impl_labelled.f]
    rw [h1, Option.bind_some]
    cases hb : isB okL s.data.toList with
    | false => rfl
    | true =>
      obtain rfl := h2 hb
      have hp : IsB okB (ReadLab.plainText s).data.toList := by
        rw [plain_list]
        exact (plainB (isB_iff.1 hb))
      have q := isState_eq (ReadLab.plainText s) hp x y a0 a1 a2 a3 a4 a5
      rw [plain_list] at q
      rw [if_pos rfl]
      simp only [impl_grid_floor.f, impl_grid_isState.f]
      rw [floor_at s (isB_iff.1 hb), Option.bind_some, q]
      rfl
  · unfold askB at h
    rw [Bool.and_eq_true] at h
    exact h.1
theorem ask_parts {s : ByteArray} {x y a0 a1 a2 a3 a4 a5 : Int} (h : askB s x y a0 a1 a2 a3 a4 a5 = true) : IsB okL s.data.toList ∧ hasB s.data.toList x y = true ∧ ((0 ≤ x ∧ x < 7) ∧ (0 ≤ y ∧ y < 7)) := by
  unfold askB at h
  rw [Bool.and_eq_true] at h
  have hi := isB_iff.1 h.1
  have h2 := h.2
  refine ⟨hi, ?_, state_in (plainB hi) h2⟩
  unfold stateB at h2
  rw [Bool.and_eq_true] at h2
  rw [← has_map]
  exact floor_has h2.1

/-- A state over labels: its cell, and whether it can be rolled and matches then. -/
def mB (l : List UInt8) (t : Reach.St) : Bool := matchB l t.x t.y t.d.t
def canL (l : List UInt8) (t : Reach.St) (k : Nat) : Bool := canB (l.map unlab) t k && mB l (moved t k)
theorem can_has {l : List UInt8} {t : Reach.St} {k : Nat} (h : canB (l.map unlab) t k = true) : hasB l (moved t k).x (moved t k).y = true := by
  rw [← has_map]
  exact floor_has h
theorem prRoll_eq (l : List UInt8) (h : IsB okL l) (t : Reach.St) (hx : 0 ≤ t.x ∧ t.x < 7) (hy : 0 ≤ t.y ∧ t.y < 7) (k : Nat) (hk : k < 4) :
    spec_prRoll.f (wide l) (high l) (ints (cells (l.map unlab))) (ints (cells l)) t.x t.y t.d.t t.d.n t.d.e t.d.s t.d.w t.d.b k = some (if canL l t k = true then flat (moved t k) true else zero9) := by
  have q := boRoll_eq _ (plainB h) t hx hy k hk
  rw [wide_map, high_map] at q
  unfold spec_prRoll.f canL
  simp only [spec_boRoll.f, spec_prMatch.f]
  rw [q, Option.bind_some]
  cases hc : canB (l.map unlab) t k with
  | false => rfl
  | true =>
    rw [if_pos rfl, if_pos rfl]
    simp only
    rw [prMatch_eq l h _ _ _ _ _ _ _ _ _ (can_has hc), Option.bind_some, Bool.true_and]
    show (if matchB l (moved t k).x (moved t k).y (moved t k).d.t = true then _ else _) = _
    unfold mB
    cases matchB l (moved t k).x (moved t k).y (moved t k).d.t <;> rfl
theorem over_eq (s : ByteArray) (h : IsB okL s.data.toList) (t : Reach.St) (hx : 0 ≤ t.x ∧ t.x < 7) (hy : 0 ≤ t.y ∧ t.y < 7) (c : Int) :
    impl_grid_over.f (gridOf s) t.x t.y t.d.t t.d.n t.d.e t.d.s t.d.w t.d.b c = some (flat (moved t (dirOf c)) (canL s.data.toList t (dirOf c) && mB s.data.toList t)) := by
  have hp : IsB okB (ReadLab.plainText s).data.toList := by
    rw [plain_list]
    exact (plainB h)
  have q := gridRoll_eq (ReadLab.plainText s) hp t hx hy c
  rw [plain_list] at q
  unfold impl_grid_over.f canL
  (try unfold Go.Proofs.YtkmkanpikhnmbaaDoor.Over.says)
  (try simp only [impl_grid_floor.f, impl_grid_roll.f, impl_grid_matches.f])
  rw [floor_at s h, Option.bind_some, q, Option.bind_some]
  cases hc : canB (s.data.toList.map unlab) t (dirOf c) with
  | false => rfl
  | true =>
    rw [if_pos rfl, matches_eq s h, Option.bind_some]
    unfold mB
    cases hm : matchB s.data.toList t.x t.y t.d.t with
    | false => simp
    | true =>
      rw [if_pos rfl]
      simp only
      rw [matches_eq s h, Option.bind_some]
      simp

theorem eqState_self (x y a b c d e f : Int) : laws_eqState.f x y a b c d e f x y a b c d e f = some true := by
  first
    | (unfold laws_eqState.f; rw [if_pos rfl, if_pos rfl, eqSelf]; rfl)
    | simp [laws_eqState.f, Go.Proofs.YtkmkanpikhnmbaaDoor.Eqs.eqState, Go.Proofs.YtkmkanpikhnmbaaDoor.Eqs.eqDie]

/-- Where a word leads over labels. -/
def over (l : List UInt8) : Reach.St → List Nat → Option Reach.St
  | t, [] => some t
  | t, k :: ks => if canL l t k = true then over l (moved t k) ks else none
def ans : Option Reach.St → Int × Int × Int × Int × Int × Int × Int × Int × Bool
  | some t => flat t true
  | none => zero9
theorem canL_in {l : List UInt8} (h : IsB okL l) {t : Reach.St} {k : Nat} (hc : canL l t k = true) : ((0 ≤ (moved t k).x ∧ (moved t k).x < 7) ∧ (0 ≤ (moved t k).y ∧ (moved t k).y < 7)) ∧ mB l (moved t k) = true := by
  unfold canL at hc
  rw [Bool.and_eq_true] at hc
  exact ⟨floor_in (plainB h) hc.1, hc.2⟩
theorem over_spec (s word : ByteArray) (hi : IsB okL s.data.toList) (hg : goodWord word = true) : ∀ (n i k : Nat) (t : Reach.St), i + n = word.size → n + 10 < k → ((0 ≤ t.x ∧ t.x < 7) ∧ (0 ≤ t.y ∧ t.y < 7)) →
    spec_RollOverLabels.l0 k word (ints (cells s.data.toList)) i t.x t.y t.d.t t.d.n t.d.e t.d.s t.d.w t.d.b (wide s.data.toList) (high s.data.toList) (ints (cells (s.data.toList.map unlab))) = some (ans (over s.data.toList t ((dirs word).drop i))) := by
  obtain ⟨h60, hw⟩ := good_small hg
  intro n
  induction n with
  | zero =>
    intro i k t hin hk ht
    obtain ⟨k, rfl⟩ : ∃ m, k = m + 1 := ⟨k - 1, by omega⟩
    rw [spec_RollOverLabels.l0, if_neg (by omega), List.drop_eq_nil_of_le (by rw [dirs_length]; omega), over]
    rfl
  | succ n ih =>
    intro i k t hin hk ht
    obtain ⟨k, rfl⟩ : ∃ m, k = m + 1 := ⟨k - 1, by omega⟩
    have hl : i < word.data.toList.length := by show i < word.size; omega
    rw [spec_RollOverLabels.l0, if_pos (by omega), if_pos (by omega), wrap_up (n := word.size) (by omega) (by omega), if_pos (by omega), if_pos (by omega), Int.toNat_natCast, Int.toNat_natCast]
    simp only [spec_diDir.f]
    rw [diDir_ch word i hl k (by omega), Option.bind_some, if_pos (isW_at hw i hl), prRoll_eq _ hi t ht.1 ht.2 _ (dirOf_lt _), Option.bind_some, dirs_at word i hl, over]
    by_cases hc : canL s.data.toList t (dirOf word.data.toList[i].toNat) = true
    · rw [if_pos hc, if_pos hc, if_pos rfl]
      exact ih (i + 1) k (moved t (dirOf word.data.toList[i].toNat)) (by omega) (by omega) (canL_in hi hc).1
    · rw [if_neg hc, if_neg hc, if_neg (by simp)]
      rfl
theorem over_impl (s word : ByteArray) (hi : IsB okL s.data.toList) (hg : goodWord word = true) : ∀ (n i k : Nat) (t : Reach.St), i + n = word.size → n + 10 < k → ((0 ≤ t.x ∧ t.x < 7) ∧ (0 ≤ t.y ∧ t.y < 7)) → mB s.data.toList t = true →
    impl_RollOverLabels.l0 k word (gridOf s) word.size i t.x t.y t.d.t t.d.n t.d.e t.d.s t.d.w t.d.b = some (ans (over s.data.toList t ((dirs word).drop i))) := by
  obtain ⟨h60, hw⟩ := good_small hg
  intro n
  induction n with
  | zero =>
    intro i k t hin hk ht hm
    obtain ⟨k, rfl⟩ : ∃ m, k = m + 1 := ⟨k - 1, by omega⟩
    rw [impl_RollOverLabels.l0, if_neg (by omega), List.drop_eq_nil_of_le (by rw [dirs_length]; omega), over]
    rfl
  | succ n ih =>
    intro i k t hin hk ht hm
    obtain ⟨k, rfl⟩ : ∃ m, k = m + 1 := ⟨k - 1, by omega⟩
    have hl : i < word.data.toList.length := by show i < word.size; omega
    rw [impl_RollOverLabels.l0, if_pos (by omega), if_pos (by omega), if_pos (by omega), BaseL.bt_at word i hl, over_eq s hi t ht.1 ht.2, Option.bind_some, dirs_at word i hl, over, hm, Bool.and_true, BaseL.up (by omega)]
    by_cases hc : canL s.data.toList t (dirOf word.data.toList[i].toNat) = true
    · rw [if_pos (by simpa using hc), if_pos hc]
      exact ih (i + 1) k (moved t (dirOf word.data.toList[i].toNat)) (by omega) (by omega) (canL_in hi hc).1 (canL_in hi hc).2
    · rw [if_neg (by simpa using hc), if_neg hc]
      rfl

theorem rollOver (s : ByteArray) (x y a0 a1 a2 a3 a4 a5 : Int) (t : ByteArray) : ∃ k, laws_FnExactRollOverLabels.f k s x y a0 a1 a2 a3 a4 a5 t = some true := by
  refine ⟨3 * s.size + t.size + 201, ?_⟩
  unfold laws_FnExactRollOverLabels.f
  by_cases h : (s.size : Int) > 1048576
  · rw [if_pos h]
  by_cases h' : (t.size : Int) > 1048576
  · rw [if_neg h, if_pos h']
  · obtain ⟨g, h1, h2⟩ := onLabels_at s (by omega) x y a0 a1 a2 a3 a4 a5 (3 * s.size + t.size + 201) (by omega)
    obtain ⟨r, q1, q2, q3⟩ := prAsked_at s x y a0 a1 a2 a3 a4 a5 (3 * s.size + t.size + 201) (by omega)
    rw [if_neg h, if_neg h', laws_toState.f, laws_toDie.f]
    simp only [Option.bind_some]
    have key : ∃ a, spec_RollOverLabels.f (3 * s.size + t.size + 201) s x y a0 a1 a2 a3 a4 a5 t = some a ∧ impl_RollOverLabels.f (3 * s.size + t.size + 201) s x y a0 a1 a2 a3 a4 a5 t = some a := by
      rw [spec_RollOverLabels.f, impl_RollOverLabels.f, q1, h1]
      simp only [Option.bind_some, spec_diWord.f, impl_IsRolls.f]
      cases ha : askB s x y a0 a1 a2 a3 a4 a5 with
      | false =>
        rw [ha] at q2
        rw [if_neg (by rw [q2]; decide), if_neg (by decide), spec_RollOverLabels.j0, impl_RollOverLabels.j0, if_pos rfl, if_pos rfl]
        exact ⟨_, rfl, rfl⟩
      | true =>
        obtain rfl := h2 ha
        obtain rfl := q3 ha
        obtain ⟨hi, hb, hx, hy⟩ := ask_parts ha
        rw [if_pos rfl, if_pos rfl, diWord_at t (by omega) _ (by omega), isRolls_eq t (by omega)]
        simp only [Option.bind_some]
        cases hg : goodWord t with
        | false =>
          rw [if_neg (by decide), if_neg (by decide), spec_RollOverLabels.j0, impl_RollOverLabels.j0, if_pos rfl, if_pos rfl]
          exact ⟨_, rfl, rfl⟩
        | true =>
          rw [if_pos rfl, if_pos rfl]
          simp only [spec_prMatch.f, impl_grid_matches.f]
          rw [prMatch_eq _ hi _ _ _ _ _ _ _ _ _ hb, matches_eq s hi]
          simp only [Option.bind_some]
          cases hm : matchB s.data.toList x y a0 with
          | false =>
            rw [spec_RollOverLabels.j0, impl_RollOverLabels.j0, if_pos (show (!false) = true from rfl), if_pos (show (!false) = true from rfl)]
            exact ⟨_, rfl, rfl⟩
          | true =>
            have p1 := over_spec s t hi hg t.size 0 (3 * s.size + t.size + 200) ⟨x, y, ⟨a0, a1, a2, a3, a4, a5⟩⟩ (by omega) (by omega) ⟨hx, hy⟩
            have p2 := over_impl s t hi hg t.size 0 (3 * s.size + t.size + 200) ⟨x, y, ⟨a0, a1, a2, a3, a4, a5⟩⟩ (by omega) (by omega) ⟨hx, hy⟩ hm
            rw [spec_RollOverLabels.j0, impl_RollOverLabels.j0, if_neg (show ¬ (!true) = true by decide), if_neg (show ¬ (!true) = true by decide)]
            exact ⟨_, p1, p2⟩
    obtain ⟨a, k1, k2⟩ := key
    rw [k1]
    simp only [Option.bind_some]
    rw [k2]
    simp [eqState_self]
end Go.Proofs.YtkmkanpikhnmbaaDoor.PureRL
