/- The call that rolls a die in all directions of a text: what it comes to, for every text (whatever is no n, e or s counts as w). -/
import Derived.Test.YtfcifidjjbknaaaDoorQBasex
import Derived.Test.YtfcifidjjbknaaaDoorDirs
namespace Go.Proofs.YtfcifidjjbknaaaDoor.Rolled
open Go.RowKit Go.Proofs.YtfcifidjjbknaaaDoor.QBase Go.Proofs.YtfcifidjjbknaaaDoorW.PrintWords Go.Proofs.YtfcifidjjbknaaaDoorW.PrintLast Go.Proofs.YtfcifidjjbknaaaDoor.Dirs
open Go.Proofs.YtfcifidjjbknaaaDoor.Dice (Die roll rolled)
set_option linter.unusedVariables false
set_option linter.unusedSimpArgs false

theorem roll_eq (d : Die) (c : Int) : impl_Die_roll.f d.t d.n d.e d.s d.w d.b c = some (tup (roll d (dirOf c))) := by
  unfold impl_Die_roll.f Go.Proofs.YtfcifidjjbknaaaDoor.DieRolls.iroll dirOf
  by_cases h1 : c = 110
  · simp [h1, roll]
  · by_cases h2 : c = 101
    · simp [h2, roll]
    · by_cases h3 : c = 115
      · simp [h3, roll]
      · simp [h1, h2, h3, roll]

theorem rolled_at (s : ByteArray) (hs : s.size ≤ 140737488351232) : ∀ (n i k : Nat) (d : Die), i + n = s.size → n < k →
    impl_Die_rolled.l0 k s s.size i d.t d.n d.e d.s d.w d.b = some (tup (rolled d ((dirs s).drop i))) := by
  intro n
  induction n with
  | zero =>
    intro i k d hi hk
    obtain ⟨k, rfl⟩ : ∃ m, k = m + 1 := ⟨k - 1, by omega⟩
    rw [impl_Die_rolled.l0, if_neg (by omega), List.drop_eq_nil_of_le (by rw [dirs_length]; omega)]
    rfl
  | succ n ih =>
    intro i k d hi hk
    obtain ⟨k, rfl⟩ : ∃ m, k = m + 1 := ⟨k - 1, by omega⟩
    have hw : wrap64 ((i : Int) + 1) = ((i + 1 : Nat) : Int) := by
      unfold wrap64
      omega
    have hlt : i < (dirs s).length := by rw [dirs_length]; omega
    rw [impl_Die_rolled.l0, if_pos (by omega), if_pos (by omega), if_pos (by omega), roll_eq]
    simp only [Option.bind_some]
    rw [hw, List.drop_eq_getElem_cons hlt]
    have hc : (dirs s)[i] = dirOf (bt s i) := by
      have hi2 : i < s.size := by omega
      simp [dirs, bt, hi2]
      rfl
    rw [hc]
    exact ih (i + 1) k (roll d (dirOf (bt s i))) (by omega) (by omega)

theorem rolled_eq (s : ByteArray) (hs : s.size ≤ 140737488351232) (d : Die) (k : Nat) (hk : s.size < k) : impl_Die_rolled.f k d.t d.n d.e d.s d.w d.b s = some (tup (rolled d (dirs s))) := by
  unfold impl_Die_rolled.f
  exact rolled_at s hs s.size 0 k d (by omega) hk

theorem rolled_calls (d : Die) (s : ByteArray) (hs : s.size ≤ 140737488351232) (w : World) :
    Calls Tryd.prog 22 #[encDie d, .string s] w fun e w' => e = .returned (encDie (rolled d (dirs s))) ∧ Below w.heap.size w w' :=
  impl_Die_rolled.calls (s.size + 1) d.t d.n d.e d.s d.w d.b s _ _ _ _ _ _ w (rolled_eq s hs d _ (by omega))

end Go.Proofs.YtfcifidjjbknaaaDoor.Rolled
