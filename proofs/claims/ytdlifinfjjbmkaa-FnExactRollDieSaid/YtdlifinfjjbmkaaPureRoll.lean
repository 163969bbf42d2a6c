/- The plain law on RollDie: a direction is one of the four texts of one byte, for both. Conditions: none. -/
import Derived.Test.YtdlifinfjjbmkaaQRdiex
import Derived.Test.YtdlifinfjjbmkaaIsDir
namespace Go.Proofs.Ytdlifinfjjbmkaa.PureRoll
open Go.RowKit Go.Proofs.Ytdlifinfjjbmkaa.QRdie Go.Proofs.YtdlifinfjjbmkaaW.PrintWords Go.Proofs.YtdlifinfjjbmkaaW.PrintLast Go.Proofs.Ytdlifinfjjbmkaa.IsDie Go.Proofs.Ytdlifinfjjbmkaa.IsDir
set_option linter.unusedVariables false
set_option linter.unusedSimpArgs false

theorem succ_wrap {i : Nat} (h : i < 1000000) : wrap64 ((i : Int) + 1) = ((i + 1 : Nat) : Int) := by
  unfold wrap64
  omega

theorem l1In_eq (n : Int) : spec_l1In.f n 0 9 = some (inB n) := by
  unfold spec_l1In.f inB
  by_cases h : 0 ≤ n
  · rw [if_pos h]
    simp [h]
  · rw [if_neg h]
    simp [h]
theorem all_at (xs : List Int) (hl : xs.length ≤ 1000) : ∀ (d i k : Nat), i + d = xs.length → d < k → spec_l1All.l0 k 0 9 xs xs.length i = some ((xs.drop i).all inB) := by
  intro d
  induction d with
  | zero =>
    intro i k hi hk
    obtain ⟨k, rfl⟩ : ∃ m, k = m + 1 := ⟨k - 1, by omega⟩
    rw [spec_l1All.l0, if_neg (by omega), List.drop_eq_nil_of_le (by omega)]
    rfl
  | succ d ih =>
    intro i k hi hk
    obtain ⟨k, rfl⟩ : ∃ m, k = m + 1 := ⟨k - 1, by omega⟩
    have hlt : i < xs.length := by omega
    rw [spec_l1All.l0, if_pos (by omega), if_pos (by omega), if_pos (by omega), l1In_eq]
    simp only [Option.bind_some]
    rw [List.drop_eq_getElem_cons hlt, List.all_cons]
    have hr : rd xs i = xs[i] := by simp [rd, hlt]
    rw [hr]
    cases inB xs[i] with
    | true =>
      rw [if_pos rfl, succ_wrap (by omega), ih (i + 1) k (by omega) (by omega)]
      simp
    | false => simp
theorem diGood_at (a0 a1 a2 a3 a4 a5 : Int) (k : Nat) (hk : 7 ≤ k) : spec_diGood.f k a0 a1 a2 a3 a4 a5 = some (good a0 a1 a2 a3 a4 a5) := by
  unfold spec_diGood.f spec_diFaces.f spec_l1All.f
  simp only [Option.bind_some]
  have := all_at [a0, a1, a2, a3, a4, a5] (by simp) 6 0 k (by simp) (by omega)
  simp only [Int.natCast_zero, List.drop_zero] at this
  rw [this]
  rfl

/-- The index of a direction, or -1. -/
def dirIx (s : ByteArray) : Int := if s.toList = [110] then 0 else if s.toList = [101] then 1 else if s.toList = [115] then 2 else if s.toList = [119] then 3 else -1

theorem diDir_at (s : ByteArray) (k : Nat) : spec_diDir.f (k + 5) s = some (dirIx s) := by
  have e0 : ((⟨#[110, 101, 115, 119]⟩ : ByteArray).extract 0 1).toList = [110] := by rw [Lib.toList_data, ByteArray.data_extract]; rfl
  have e1 : ((⟨#[110, 101, 115, 119]⟩ : ByteArray).extract 1 2).toList = [101] := by rw [Lib.toList_data, ByteArray.data_extract]; rfl
  have e2 : ((⟨#[110, 101, 115, 119]⟩ : ByteArray).extract 2 3).toList = [115] := by rw [Lib.toList_data, ByteArray.data_extract]; rfl
  have e3 : ((⟨#[110, 101, 115, 119]⟩ : ByteArray).extract 3 4).toList = [119] := by rw [Lib.toList_data, ByteArray.data_extract]; rfl
  have z : (((⟨#[110, 101, 115, 119]⟩ : ByteArray).size : Nat) : Int) = 4 := rfl
  have w1 : wrap64 ((0 : Int) + 1) = 1 := by unfold wrap64; omega
  have w2 : wrap64 ((1 : Int) + 1) = 2 := by unfold wrap64; omega
  have w3 : wrap64 ((2 : Int) + 1) = 3 := by unfold wrap64; omega
  have w4 : wrap64 ((3 : Int) + 1) = 4 := by unfold wrap64; omega
  have t0 : Int.toNat 0 = 0 := rfl
  have t1 : Int.toNat 1 = 1 := rfl
  have t2 : Int.toNat 2 = 2 := rfl
  have t3 : Int.toNat 3 = 3 := rfl
  have t4 : Int.toNat 4 = 4 := rfl
  unfold spec_diDir.f dirIx
  rw [spec_diDir.l0, spec_diDirs.f, Option.bind_some, w1, z, t0, t1, e0, if_pos (by omega), if_pos (by omega), if_pos (by omega), if_pos (by omega)]
  by_cases h0 : s.toList = [110]
  · rw [if_pos h0, if_pos h0]
  rw [if_neg h0, if_neg h0, spec_diDir.l0, spec_diDirs.f, Option.bind_some, w2, z, t1, t2, e1, if_pos (by omega), if_pos (by omega), if_pos (by omega), if_pos (by omega)]
  by_cases h1 : s.toList = [101]
  · rw [if_pos h1, if_pos h1]
  rw [if_neg h1, if_neg h1, spec_diDir.l0, spec_diDirs.f, Option.bind_some, w3, z, t2, t3, e2, if_pos (by omega), if_pos (by omega), if_pos (by omega), if_pos (by omega)]
  by_cases h2 : s.toList = [115]
  · rw [if_pos h2, if_pos h2]
  rw [if_neg h2, if_neg h2, spec_diDir.l0, spec_diDirs.f, Option.bind_some, w4, z, t3, t4, e3, if_pos (by omega), if_pos (by omega), if_pos (by omega), if_pos (by omega)]
  by_cases h3 : s.toList = [119]
  · rw [if_pos h3, if_pos h3]
  rw [if_neg h3, if_neg h3, spec_diDir.l0, if_neg (by omega)]

theorem one (c : UInt8) : (⟨⟨[c]⟩⟩ : ByteArray).toList = [c] := by rw [Lib.toList_data]
theorem bt_one (c : UInt8) : bt ⟨⟨[c]⟩⟩ 0 = (c.toNat : Int) := rfl

theorem no_dir {s : ByteArray} (h : isDirB s = false) : dirIx s = -1 := by
  obtain ⟨⟨l⟩⟩ := s
  unfold dirIx
  rw [Lib.toList_data]
  by_cases hl : l.length = 1
  · obtain ⟨c, rfl⟩ : ∃ c, l = [c] := List.length_eq_one_iff.1 hl
    have hz : (⟨⟨[c]⟩⟩ : ByteArray).size = 1 := rfl
    simp only [isDirB, hz, beq_self_eq_true, Bool.true_and, List.headD_cons] at h
    rw [if_neg, if_neg, if_neg, if_neg]
    all_goals
      intro e
      injection e with e
      subst e
      revert h
      decide
  · rw [if_neg, if_neg, if_neg, if_neg]
    all_goals
      intro e
      exact hl (by simpa using congrArg List.length e)

theorem is_dir {s : ByteArray} (h : isDirB s = true) : s = ⟨⟨[110]⟩⟩ ∨ s = ⟨⟨[101]⟩⟩ ∨ s = ⟨⟨[115]⟩⟩ ∨ s = ⟨⟨[119]⟩⟩ := by
  obtain ⟨⟨l⟩⟩ := s
  by_cases hl : l.length = 1
  · obtain ⟨c, rfl⟩ : ∃ c, l = [c] := List.length_eq_one_iff.1 hl
    have hz : (⟨⟨[c]⟩⟩ : ByteArray).size = 1 := rfl
    simp only [isDirB, hz, beq_self_eq_true, Bool.true_and, List.headD_cons, Lib.indexByte] at h
    by_cases h0 : c = 110
    · subst h0; exact .inl rfl
    by_cases h1 : c = 101
    · subst h1; exact .inr (.inl rfl)
    by_cases h2 : c = 115
    · subst h2; exact .inr (.inr (.inl rfl))
    by_cases h3 : c = 119
    · subst h3; exact .inr (.inr (.inr rfl))
    simp [Ne.symm h0, Ne.symm h1, Ne.symm h2, Ne.symm h3] at h
  · have hz : (⟨⟨l⟩⟩ : ByteArray).size = l.length := rfl
    have hb : ((⟨⟨l⟩⟩ : ByteArray).size == 1) = false := by rw [hz]; simpa using hl
    rw [isDirB, hb] at h
    cases h

theorem eqSelf (a b c d e f : Int) : laws_eqDie.f a b c d e f a b c d e f = some true := by
  simp [laws_eqDie.f]

theorem rollDie (a0 a1 a2 a3 a4 a5 : Int) (s : ByteArray) : ∃ k, laws_FnExactRollDie.f k a0 a1 a2 a3 a4 a5 s = some true := by
  refine ⟨7 + 5, ?_⟩
  unfold laws_FnExactRollDie.f
  by_cases hb : (s.size : Int) > 1048576
  · rw [if_pos hb]
  rw [if_neg hb]
  simp only [laws_toDie.f, Option.bind_some, spec_RollDie.f, impl_RollDie.f, impl_IsDie.f, impl_isDir.f]
  rw [diGood_at _ _ _ _ _ _ _ (by omega), Option.bind_some, diDir_at, Option.bind_some]
  cases good a0 a1 a2 a3 a4 a5 with
  | false =>
    rw [if_neg (by decide), if_neg (by decide), spec_RollDie.j0, if_pos rfl]
    simp [eqSelf]
  | true =>
    rw [if_pos rfl, if_pos rfl]
    cases h : isDirB s with
    | false =>
      rw [if_neg (by decide), no_dir h, spec_RollDie.j0, if_pos (by decide)]
      simp [eqSelf]
    | true =>
      rw [if_pos rfl]
      have f4 : (7 + 5 : Nat) = 6 + 5 + 1 := rfl
      rw [f4, spec_RollDie.j0, diDir_at, Option.bind_some]
      have hz : ∀ c : UInt8, (⟨⟨[c]⟩⟩ : ByteArray).size = 1 := fun _ => rfl
      have i0 : dirIx ⟨⟨[110]⟩⟩ = 0 := by unfold dirIx; rw [one]; rfl
      have i1 : dirIx ⟨⟨[101]⟩⟩ = 1 := by unfold dirIx; rw [one]; rfl
      have i2 : dirIx ⟨⟨[115]⟩⟩ = 2 := by unfold dirIx; rw [one]; rfl
      have i3 : dirIx ⟨⟨[119]⟩⟩ = 3 := by unfold dirIx; rw [one]; rfl
      rcases is_dir h with rfl | rfl | rfl | rfl
      all_goals
        first | rw [i0] | rw [i1] | rw [i2] | rw [i3]
        rw [bt_one, hz, if_neg (by decide)]
        simp [spec_diRoll.f, impl_Die_roll.f, eqSelf]
end Go.Proofs.Ytdlifinfjjbmkaa.PureRoll
