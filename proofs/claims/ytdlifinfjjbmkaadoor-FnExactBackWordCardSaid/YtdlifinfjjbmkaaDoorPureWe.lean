/- The plain law on BackWord: the turned letters, the last one first. Conditions: none but that a text has at most 2^47 bytes. -/
import Derived.Test.YtdlifinfjjbmkaaDoorQWex
import Derived.Test.YtdlifinfjjbmkaaDoorWords
namespace Go.Proofs.YtdlifinfjjbmkaaDoor.PureWe
open Go.RowKit Go.Proofs.YtdlifinfjjbmkaaDoor.QWe Go.Proofs.YtdlifinfjjbmkaaDoorW.PrintWords Go.Proofs.YtdlifinfjjbmkaaDoorW.PrintLast Go.Proofs.YtdlifinfjjbmkaaDoor.Rolled Go.Proofs.YtdlifinfjjbmkaaDoor.Words
open Go.Proofs.YtdlifinfjjbmkaaDoor.Turned (turnByte)
set_option linter.unusedVariables false
set_option linter.unusedSimpArgs false

theorem diDir_at (s : ByteArray) (k : Nat) : spec_diDir.f (k + 5) s = some (dirIx s) := by
  have e0 : ((⟨#[110, 101, 115, 119]⟩ : ByteArray).extract 0 1).toList = [110] := by rw [Go.Lib.toList_data, ByteArray.data_extract]; rfl
  have e1 : ((⟨#[110, 101, 115, 119]⟩ : ByteArray).extract 1 2).toList = [101] := by rw [Go.Lib.toList_data, ByteArray.data_extract]; rfl
  have e2 : ((⟨#[110, 101, 115, 119]⟩ : ByteArray).extract 2 3).toList = [115] := by rw [Go.Lib.toList_data, ByteArray.data_extract]; rfl
  have e3 : ((⟨#[110, 101, 115, 119]⟩ : ByteArray).extract 3 4).toList = [119] := by rw [Go.Lib.toList_data, ByteArray.data_extract]; rfl
  have z : (((⟨#[110, 101, 115, 119]⟩ : ByteArray).size : Nat) : Int) = 4 := rfl
  have w1 : wrap64 ((0 : Int) + 1) = 1 := by unfold wrap64; omega
  have w2 : wrap64 ((1 : Int) + 1) = 2 := by unfold wrap64; omega
  have w3 : wrap64 ((2 : Int) + 1) = 3 := by unfold wrap64; omega
  have w4 : wrap64 ((3 : Int) + 1) = 4 := by unfold wrap64; omega
  have t0 : Int.toNat 0 = 0 := rfl
  have t1 : Int.toNat 1 = 1 := rfl
  have t2 : Int.toNat 2 = 2 := rfl
  have t3 : Int.toNat 3 = 3 := rfl
  have t4 : Int.toNat 4 = 4 := rfl
  unfold spec_diDir.f dirIx
  rw [spec_diDir.l0, spec_diDirs.f, Option.bind_some, w1, z, t0, t1, e0, if_pos (by omega), if_pos (by omega), if_pos (by omega), if_pos (by omega)]
  by_cases h0 : s.toList = [110]
  · rw [if_pos h0, if_pos h0]
  rw [if_neg h0, if_neg h0, spec_diDir.l0, spec_diDirs.f, Option.bind_some, w2, z, t1, t2, e1, if_pos (by omega), if_pos (by omega), if_pos (by omega), if_pos (by omega)]
  by_cases h1 : s.toList = [101]
  · rw [if_pos h1, if_pos h1]
  rw [if_neg h1, if_neg h1, spec_diDir.l0, spec_diDirs.f, Option.bind_some, w3, z, t2, t3, e2, if_pos (by omega), if_pos (by omega), if_pos (by omega), if_pos (by omega)]
  by_cases h2 : s.toList = [115]
  · rw [if_pos h2, if_pos h2]
  rw [if_neg h2, if_neg h2, spec_diDir.l0, spec_diDirs.f, Option.bind_some, w4, z, t3, t4, e3, if_pos (by omega), if_pos (by omega), if_pos (by omega), if_pos (by omega)]
  by_cases h3 : s.toList = [119]
  · rw [if_pos h3, if_pos h3]
  rw [if_neg h3, if_neg h3, spec_diDir.l0, if_neg (by omega)]

theorem wrap_up {i n : Nat} (h : i < n) (hn : n ≤ 1048576) : wrap64 ((i : Int) + 1) = ((i + 1 : Nat) : Int) := by
  unfold wrap64
  omega
/-- One letter of a text, as the reference reads it. -/
theorem diDir_ch (s : ByteArray) (i : Nat) (h : i < s.data.toList.length) (k : Nat) (hk : 5 ≤ k) :
    spec_diDir.f k (s.extract i (i + 1)) = some (if letters.contains s.data.toList[i] = true then (dirOf s.data.toList[i].toNat : Int) else -1) := by
  obtain ⟨m, rfl⟩ : ∃ m, k = m + 5 := ⟨k - 5, by omega⟩
  rw [diDir_at, extract_one s i h, dirIx_one]
theorem diWord_l0 (s : ByteArray) (hs : s.size ≤ 1048576) : ∀ (n i k : Nat), i + n = s.size → n + 6 < k → spec_diWord.l0 k s i = some (isW (s.data.toList.drop i)) := by
  intro n
  induction n with
  | zero =>
    intro i k hi hk
    obtain ⟨k, rfl⟩ : ∃ m, k = m + 1 := ⟨k - 1, by omega⟩
    rw [spec_diWord.l0, if_neg (by omega), List.drop_eq_nil_of_le (by show s.size ≤ i; omega)]
    rfl
  | succ n ih =>
    intro i k hi hk
    obtain ⟨k, rfl⟩ : ∃ m, k = m + 1 := ⟨k - 1, by omega⟩
    have hl : i < s.data.toList.length := by show i < s.size; omega
    rw [spec_diWord.l0, if_pos (by omega), wrap_up (n := s.size) (by omega) hs, if_pos (by omega), if_pos (by omega), if_pos (by omega), Int.toNat_natCast, Int.toNat_natCast, diDir_ch s i hl k (by omega), Option.bind_some]
    rw [List.drop_eq_getElem_cons hl]
    unfold isW
    rw [List.all_cons]
    by_cases hc : letters.contains s.data.toList[i] = true
    · rw [if_pos hc, if_neg (by omega), ih (i + 1) k (by omega) (by omega), hc]
      rfl
    · rw [if_neg hc, if_pos (by omega)]
      simp only [Bool.not_eq_true] at hc
      rw [hc]
      rfl
theorem diWord_at (s : ByteArray) (hs : s.size ≤ 1048576) (k : Nat) (hk : s.size + 7 < k) : spec_diWord.f k s = some (goodWord s) := by
  unfold spec_diWord.f goodWord
  by_cases h : s.size ≤ 60
  · rw [if_neg (by omega), show ((0 : Int)) = ((0 : Nat) : Int) from rfl, diWord_l0 s hs s.size 0 k (by omega) (by omega), List.drop_zero]
    simp [h]
  · rw [if_pos (by omega)]
    simp [h]

theorem piece (q : Nat) (hq : q = 1 ∨ q = 2) (c : UInt8) (hc : letters.contains c = true) :
    0 ≤ Int.tmod (wrap64 ((dirOf c.toNat : Int) + (q : Int))) 4 ∧ Int.tmod (wrap64 ((dirOf c.toNat : Int) + (q : Int))) 4 ≤ wrap64 (Int.tmod (wrap64 ((dirOf c.toNat : Int) + (q : Int))) 4 + 1) ∧
    wrap64 (Int.tmod (wrap64 ((dirOf c.toNat : Int) + (q : Int))) 4 + 1) ≤ 4 ∧
    (⟨#[110, 101, 115, 119]⟩ : ByteArray).extract (Int.tmod (wrap64 ((dirOf c.toNat : Int) + (q : Int))) 4).toNat (wrap64 (Int.tmod (wrap64 ((dirOf c.toNat : Int) + (q : Int))) 4 + 1)).toNat = ⟨#[turnByte q c]⟩ := by
  have h : c = 110 ∨ c = 101 ∨ c = 115 ∨ c = 119 := by simpa [letters] using hc
  rcases hq with rfl | rfl <;> rcases h with rfl | rfl | rfl | rfl <;> decide +kernel
def row (l : List UInt8) : ByteArray := ⟨l.toArray⟩
theorem row_snoc (l : List UInt8) (c : UInt8) : row l ++ ⟨#[c]⟩ = row (l ++ [c]) := by
  apply ByteArray.ext
  simp [row]
theorem row_size (l : List UInt8) : (row l).size = l.length := by
  show l.toArray.size = l.length
  simp
theorem four : ((⟨#[110, 101, 115, 119]⟩ : ByteArray).size : Int) = 4 := rfl

theorem back_l0 (s : ByteArray) (hs : s.size ≤ 60) (hw : isW s.data.toList = true) : ∀ (n k : Nat), n ≤ s.size → n + 6 < k →
    spec_diBack.l0 k s (row (((s.data.toList.drop n).map (turnByte 2)).reverse)) ((n : Int) - 1) = some (row ((s.data.toList.map (turnByte 2)).reverse)) := by
  intro n
  induction n with
  | zero =>
    intro k hi hk
    obtain ⟨k, rfl⟩ : ∃ m, k = m + 1 := ⟨k - 1, by omega⟩
    rw [spec_diBack.l0, if_neg (by omega)]
    rfl
  | succ n ih =>
    intro k hi hk
    obtain ⟨k, rfl⟩ : ∃ m, k = m + 1 := ⟨k - 1, by omega⟩
    have hl : n < s.data.toList.length := by show n < s.size; omega
    have hc := isW_at hw n hl
    obtain ⟨p1, p2, p3, p4⟩ := piece 2 (.inr rfl) _ hc
    have c2 : ((2 : Nat) : Int) = 2 := rfl
    simp only [c2] at p1 p2 p3 p4
    have hsz : (row (((s.data.toList.drop (n + 1)).map (turnByte 2)).reverse)).size ≤ 60 := by
      rw [row_size]
      have : s.data.toList.length = s.size := rfl
      simp only [List.length_reverse, List.length_map, List.length_drop]
      omega
    have e0 : (((n + 1 : Nat) : Int) - 1) = (n : Int) := by omega
    have e1 : wrap64 ((n : Int) - 1) = (n : Int) - 1 := by unfold wrap64; omega
    rw [e0, spec_diBack.l0, if_pos (by omega), wrap_up (n := s.size) (by omega) (by omega), if_pos (by omega), if_pos (by omega), if_pos (by omega), Int.toNat_natCast, Int.toNat_natCast, diDir_ch s n hl k (by omega), Option.bind_some, if_pos hc]
    rw [spec_diDirs.f, Option.bind_some, if_pos p1, if_pos p2, if_pos (by rw [four]; exact p3), p4, if_pos (by have h1 : (⟨#[turnByte 2 s.data.toList[n]]⟩ : ByteArray).size = 1 := rfl; rw [h1]; omega), row_snoc, e1]
    have e : ((s.data.toList.drop (n + 1)).map (turnByte 2)).reverse ++ [turnByte 2 s.data.toList[n]] = ((s.data.toList.drop n).map (turnByte 2)).reverse := by
      rw [List.drop_eq_getElem_cons hl, List.map_cons, List.reverse_cons]
    rw [e]
    exact ih k (by omega) (by omega)

theorem backWord (s : ByteArray) (hb : s.size ≤ 140737488351232) : ∃ k, laws_FnExactBackWord.f k s = some true := by
  refine ⟨s.size + 8, ?_⟩
  unfold laws_FnExactBackWord.f
  by_cases h : (s.size : Int) > 1048576
  · rw [if_pos h]
  · rw [if_neg h, spec_BackWord.f, impl_BackWord.f, diWord_at s (by omega) _ (by omega), if_pos (by omega), Option.bind_some]
    simp only [Option.bind_some]
    unfold Go.Proofs.YtdlifinfjjbmkaaDoor.Back.backSays
    cases hg : goodWord s with
    | false => simp
    | true =>
      obtain ⟨h60, hw⟩ := good_small hg
      have h1 := back_l0 s h60 hw s.size (s.size + 8) (by omega) (by omega)
      have e1 : wrap64 ((s.size : Int) - 1) = (s.size : Int) - 1 := by unfold wrap64; omega
      have e2 : row (((s.data.toList.drop s.size).map (turnByte 2)).reverse) = ⟨#[]⟩ := by
        rw [List.drop_eq_nil_of_le (show s.data.toList.length ≤ s.size from Nat.le_refl _)]
        rfl
      rw [e2] at h1
      rw [if_pos rfl, if_pos rfl, spec_diBack.f, e1, h1]
      simp [row]
end Go.Proofs.YtdlifinfjjbmkaaDoor.PureWe
