/- The law on ParseDie: the program and the reference read the same die, or none, out of every text. Conditions: none. -/
import Derived.Test.YtdlifinfjjbmkaaPFnExactParseDiex2
namespace Go.Proofs.Ytdlifinfjjbmkaa.Pure
open Go.RowKit Go.Proofs.Ytdlifinfjjbmkaa.PFnExactParseDie Go.Proofs.YtdlifinfjjbmkaaW.PrintWords Go.Proofs.YtdlifinfjjbmkaaW.PrintLast

theorem digit_of (c : Int) : impl_isDigit.f c = some (decide (48 ≤ c ∧ c ≤ 57)) := by
  unfold impl_isDigit.f
  by_cases h : c ≥ 48
  · rw [if_pos h]
    have : (48 : Int) ≤ c := h
    simp [this]
  · rw [if_neg h]
    have : ¬ (48 : Int) ≤ c := h
    simp [this]

theorem both (s : ByteArray) (hs : (s.size : Int) = 6) : ∀ (d i : Nat) (x : List Int), i + d = 6 → x.length = i →
    ∃ r, spec_diParse.l0 (d + 1) s x i = some r ∧ impl_ParseDie.l0 (d + 1) s x 6 i = some r := by
  intro d
  induction d with
  | zero =>
    intro i x hi hx
    have h6 : (i : Int) = 6 := by omega
    have hxl : (x.length : Int) = 6 := by omega
    refine ⟨(rd x 0, rd x 1, rd x 2, rd x 3, rd x 4, rd x 5, true), ?_, ?_⟩
    · simp only [spec_diParse.l0, spec_diOf.f]
      rw [if_neg (by omega), hxl]
      simp
    · simp only [impl_ParseDie.l0, impl_dieOf.f]
      rw [if_neg (by omega), if_pos hxl, hxl]
      simp
  | succ d ih =>
    intro i x hi hx
    have hw : wrap64 ((i : Int) + 1) = ((i + 1 : Nat) : Int) := by
      unfold wrap64
      omega
    by_cases h1 : bt s i < 48
    · refine ⟨(0, 0, 0, 0, 0, 0, false), ?_, ?_⟩
      · rw [spec_diParse.l0]
        rw [if_pos (by omega), if_pos (by omega), if_pos (by omega), if_pos h1]
      · rw [impl_ParseDie.l0]
        rw [if_pos (by omega), if_pos (by omega), if_pos (by omega), digit_of]
        simp only [Option.bind_some]
        rw [if_neg (by simp; omega)]
    · by_cases h2 : bt s i > 57
      · refine ⟨(0, 0, 0, 0, 0, 0, false), ?_, ?_⟩
        · rw [spec_diParse.l0]
          rw [if_pos (by omega), if_pos (by omega), if_pos (by omega), if_neg h1, if_pos h2]
        · rw [impl_ParseDie.l0]
          rw [if_pos (by omega), if_pos (by omega), if_pos (by omega), digit_of]
          simp only [Option.bind_some]
          rw [if_neg (by simp; omega)]
      · obtain ⟨r, hr1, hr2⟩ := ih (i + 1) (x ++ [(bt s i - 48) % 256]) (by omega) (by simp [hx])
        refine ⟨r, ?_, ?_⟩
        · rw [spec_diParse.l0]
          rw [if_pos (by omega), if_pos (by omega), if_pos (by omega), if_neg h1, if_neg h2, if_pos (by omega), hw]
          exact hr1
        · rw [impl_ParseDie.l0]
          rw [if_pos (by omega), if_pos (by omega), if_pos (by omega), digit_of]
          simp only [Option.bind_some]
          rw [if_pos (by simp; omega), if_pos hs, if_pos (by omega), hw]
          exact hr2

theorem alike (s : ByteArray) : ∃ r, spec_diParse.f 7 s = some r ∧ impl_ParseDie.f 7 s = some r := by
  unfold spec_diParse.f impl_ParseDie.f
  by_cases h : (s.size : Int) = 6
  · rw [if_pos h, h]
    exact both s h 6 0 [] (by omega) rfl
  · refine ⟨(0, 0, 0, 0, 0, 0, false), by rw [if_neg h], ?_⟩
    by_cases h0 : 0 < (s.size : Int)
    · rw [impl_ParseDie.l0]
      rw [if_pos h0, if_pos (by omega), if_pos h0, digit_of]
      simp only [Option.bind_some]
      by_cases hd : decide (48 ≤ bt s 0 ∧ bt s 0 ≤ 57) = true
      · rw [if_pos hd, if_neg h]
      · rw [if_neg hd]
    · rw [impl_ParseDie.l0]
      rw [if_neg h0]
      simp

theorem eqSelf (a b c d e f : Int) : laws_eqDie.f a b c d e f a b c d e f = some true := by
  simp [laws_eqDie.f]

theorem FnExactParseDie : laws_FnExactParseDie.Pure := by
  intro s _
  refine ⟨7, ?_⟩
  unfold laws_FnExactParseDie.f
  by_cases h : (s.size : Int) > 1048576
  · rw [if_pos h]
  · rw [if_neg h]
    obtain ⟨⟨a, b, c, d, e, f, g⟩, h1, h2⟩ := alike s
    unfold spec_ParseDie.f
    rw [h1, h2]
    simp [eqSelf]

end Go.Proofs.Ytdlifinfjjbmkaa.Pure
