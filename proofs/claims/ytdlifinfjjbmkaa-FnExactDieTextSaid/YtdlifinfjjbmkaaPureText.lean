/- The plain law on DieText: six digits, byte by byte or number by number. Conditions: none. -/
import Derived.Test.YtdlifinfjjbmkaaPureSmall
namespace Go.Proofs.Ytdlifinfjjbmkaa.PureText
open Go.RowKit Go.Proofs.Ytdlifinfjjbmkaa.QSmall Go.Proofs.YtdlifinfjjbmkaaW.PrintWords Go.Proofs.YtdlifinfjjbmkaaW.PrintLast Go.Proofs.Ytdlifinfjjbmkaa.IsDie
set_option linter.unusedVariables false
set_option linter.unusedSimpArgs false

/-- The byte of a digit, as both write it. -/
def dig (n : Int) : Int := wrap64 (48 + n) % 256

theorem str_append (l m : List Int) : strOfNums (l ++ m) = strOfNums l ++ strOfNums m := by
  apply ByteArray.ext
  simp [strOfNums]
theorem str_size (l : List Int) : (strOfNums l).size = l.length := by
  simp [strOfNums, ByteArray.size]
theorem succ_wrap {i : Nat} (h : i < 1000000) : wrap64 ((i : Int) + 1) = ((i + 1 : Nat) : Int) := by
  unfold wrap64
  omega

theorem num_eq (n : Int) (h : n < 10) (k : Nat) : spec_l1Num.f (k + 1) n = some (strOfNums [dig n]) := by
  rw [spec_l1Num.f, if_pos h]
  rfl

theorem size_ok (s t : ByteArray) (h : s.size + t.size ≤ 1000) : s.size + t.size ≤ 9223372036854775807 := Nat.le_trans h (by omega)

theorem stext (xs : List Int) (hl : xs.length ≤ 100) (hx : ∀ x ∈ xs, x < 10) : ∀ (n i k : Nat), i + n = xs.length → n + 1 < k →
    spec_diText.l0 k (strOfNums ((xs.take i).map dig)) xs xs.length i = some (strOfNums (xs.map dig)) := by
  intro n
  induction n with
  | zero =>
    intro i k hi hk
    obtain ⟨k, rfl⟩ : ∃ m, k = m + 1 := ⟨k - 1, by omega⟩
    rw [spec_diText.l0, if_neg (by omega), List.take_of_length_le (by omega)]
  | succ n ih =>
    intro i k hi hk
    obtain ⟨k, rfl⟩ : ∃ m, k = m + 1 + 1 := ⟨k - 2, by omega⟩
    have hlt : i < xs.length := by omega
    have hr : rd xs i = xs[i] := by simp [rd, hlt]
    have hn := num_eq xs[i] (hx _ (List.getElem_mem hlt)) k
    have hs : (strOfNums ((xs.take i).map dig)).size + (strOfNums [dig xs[i]]).size ≤ 9223372036854775807 := by
      refine size_ok _ _ ?_
      rw [str_size, str_size, List.length_map, List.length_take]
      simp only [List.length_singleton]
      omega
    rw [spec_diText.l0, if_pos (by omega), if_pos (by omega), if_pos (by omega), hr, hn, Option.bind_some, if_pos hs, succ_wrap (by omega), ← str_append]
    have := ih (i + 1) (k + 1) (by omega) (by omega)
    rw [List.take_succ_eq_append_getElem hlt, List.map_append] at this
    exact this

theorem itext (xs : List Int) (hl : xs.length ≤ 100) : ∀ (n i k : Nat), i + n = xs.length → n < k →
    impl_DieText.l0 k ((xs.take i).map dig) xs xs.length i = some (strOfNums (xs.map dig), true) := by
  intro n
  induction n with
  | zero =>
    intro i k hi hk
    obtain ⟨k, rfl⟩ : ∃ m, k = m + 1 := ⟨k - 1, by omega⟩
    rw [impl_DieText.l0, if_neg (by omega), List.take_of_length_le (by omega)]
  | succ n ih =>
    intro i k hi hk
    obtain ⟨k, rfl⟩ : ∃ m, k = m + 1 := ⟨k - 1, by omega⟩
    have hlt : i < xs.length := by omega
    have hr : rd xs i = xs[i] := by simp [rd, hlt]
    rw [impl_DieText.l0, if_pos (by omega), if_pos (by omega), if_pos (by omega), if_pos (by rw [List.length_map, List.length_take]; omega), hr, succ_wrap (by omega)]
    have := ih (i + 1) k (by omega) (by omega)
    rw [List.take_succ_eq_append_getElem hlt, List.map_append] at this
    exact this

theorem dieText (a0 a1 a2 a3 a4 a5 : Int) : ∃ k, laws_FnExactDieText.f k a0 a1 a2 a3 a4 a5 = some true := by
  refine ⟨10, ?_⟩
  have hg := PureSmall.diGood_at a0 a1 a2 a3 a4 a5 10 (by omega)
  cases h : good a0 a1 a2 a3 a4 a5 with
  | false =>
    rw [h] at hg
    simp [laws_FnExactDieText.f, laws_toDie.f, spec_DieText.f, impl_DieText.f, impl_IsDie.f, hg, h]
  | true =>
    rw [h] at hg
    have hx : ∀ x ∈ [a0, a1, a2, a3, a4, a5], x < 10 := fun x hm => by
      unfold good at h
      have := List.all_eq_true.1 h x hm
      rw [inB_iff] at this
      omega
    have h1 := stext [a0, a1, a2, a3, a4, a5] (by simp) hx 6 0 10 (by simp) (by omega)
    have h2 := itext [a0, a1, a2, a3, a4, a5] (by simp) 6 0 10 (by simp) (by omega)
    have e1 : spec_diText.f 10 a0 a1 a2 a3 a4 a5 = some (strOfNums ([a0, a1, a2, a3, a4, a5].map dig)) := h1
    have e2 : impl_DieText.l0 10 [] [a0, a1, a2, a3, a4, a5] (([a0, a1, a2, a3, a4, a5] : List Int).length : Int) 0 = some (strOfNums ([a0, a1, a2, a3, a4, a5].map dig), true) := h2
    have s1 : spec_DieText.f 10 a0 a1 a2 a3 a4 a5 = some (strOfNums ([a0, a1, a2, a3, a4, a5].map dig), true) := by
      rw [spec_DieText.f, hg, Option.bind_some, if_pos rfl, e1, Option.bind_some]
    have s2 : impl_DieText.f 10 a0 a1 a2 a3 a4 a5 = some (strOfNums ([a0, a1, a2, a3, a4, a5].map dig), true) := by
      rw [impl_DieText.f, impl_IsDie.f, h, Option.bind_some, if_pos rfl, impl_Die_faces.f, Option.bind_some, e2]
    generalize strOfNums ([a0, a1, a2, a3, a4, a5].map dig) = t at s1 s2
    simp only [laws_FnExactDieText.f, laws_toDie.f, Option.bind_some, s1, s2]
    simp
end Go.Proofs.Ytdlifinfjjbmkaa.PureText
