/- Words of the four letters: plain lemmas. No program in sight. -/
import Derived.Test.YtfcifidjjbknaaaDoorDirs
import Derived.Lib.SlTrimSet
import Derived.Lib.Strings
namespace Go.Proofs.YtfcifidjjbknaaaDoor.Words
open Go.Proofs.YtfcifidjjbknaaaDoor.Dirs
set_option linter.unusedVariables false
set_option linter.unusedSimpArgs false

def letters : List UInt8 := [110, 101, 115, 119]
def isW (l : List UInt8) : Bool := l.all fun c => letters.contains c
def goodWord (s : ByteArray) : Bool := decide (s.size ≤ 60) && isW s.data.toList

theorem dropWhile_nil {α : Type} (p : α → Bool) : ∀ (l : List α), l.dropWhile p = [] ↔ l.all p = true
  | [] => by simp
  | a :: l => by
    rw [List.dropWhile_cons, List.all_cons]
    by_cases h : p a = true
    · rw [if_pos h, dropWhile_nil p l, h]
      simp
    · rw [if_neg h]
      simp [h]
theorem all_dropWhile_end {α : Type} (p : α → Bool) (l : List α) : (l.reverse.dropWhile p).reverse.all p = l.all p := by
  rw [Bool.eq_iff_iff, List.all_reverse]
  constructor
  · intro h
    have h2 := (dropWhile_nil p (l.reverse.dropWhile p)).2 h
    have h3 : l.reverse.dropWhile p = [] := by
      rcases hl : l.reverse.dropWhile p with _ | ⟨a, m⟩
      · rfl
      · exfalso
        have h4 : p a = false := by
          have := List.head?_dropWhile_not p l.reverse
          rw [hl] at this
          simpa using this
        rw [hl] at h
        simp [h4] at h
    have := (dropWhile_nil p l.reverse).1 h3
    rwa [List.all_reverse] at this
  · intro h
    have : l.reverse.dropWhile p = [] := (dropWhile_nil p l.reverse).2 (by rw [List.all_reverse]; exact h)
    rw [this]
    rfl
theorem trim_nil (l cs : List UInt8) : (Go.Lib.trimS l cs = []) ↔ (l.all fun c => cs.contains c) = true := by
  unfold Go.Lib.trimS Go.Lib.trimLeftS Go.Lib.trimRightS
  rw [dropWhile_nil, all_dropWhile_end]

def dirIx (s : ByteArray) : Int := if s.toList = [110] then 0 else if s.toList = [101] then 1 else if s.toList = [115] then 2 else if s.toList = [119] then 3 else -1
theorem one (c : UInt8) : (⟨⟨[c]⟩⟩ : ByteArray).toList = [c] := by rw [Go.Lib.toList_data]
theorem dirOf_lt (c : Int) : dirOf c < 4 := by
  unfold dirOf
  split
  · omega
  · split
    · omega
    · split <;> omega
theorem dirIx_one (c : UInt8) : dirIx ⟨⟨[c]⟩⟩ = if letters.contains c = true then (dirOf c.toNat : Int) else -1 := by
  unfold dirIx
  rw [one]
  by_cases h0 : c = 110
  · subst h0; rfl
  by_cases h1 : c = 101
  · subst h1; rfl
  by_cases h2 : c = 115
  · subst h2; rfl
  by_cases h3 : c = 119
  · subst h3; rfl
  rw [if_neg (by simpa using h0), if_neg (by simpa using h1), if_neg (by simpa using h2), if_neg (by simpa using h3), if_neg (by simp [letters, h0, h1, h2, h3])]
theorem extract_one (s : ByteArray) (i : Nat) (h : i < s.data.toList.length) : s.extract i (i + 1) = ⟨⟨[s.data.toList[i]]⟩⟩ := by
  apply ByteArray.ext
  apply Array.ext'
  rw [ByteArray.data_extract, Array.toList_extract]
  simp only [List.extract_eq_take_drop]
  rw [List.drop_eq_getElem_cons h, show i + 1 - i = 1 from by omega]
  simp
theorem dirs_at (s : ByteArray) (i : Nat) (h : i < s.data.toList.length) : (dirs s).drop i = dirOf (s.data.toList[i].toNat) :: (dirs s).drop (i + 1) := by
  have hl : i < (dirs s).length := by rw [dirs_length]; exact h
  rw [List.drop_eq_getElem_cons hl]
  congr 1
  simp [dirs]
theorem dirs_small (s : ByteArray) : ∀ d ∈ dirs s, d < 4 := by
  intro d hd
  unfold dirs at hd
  rw [List.mem_map] at hd
  obtain ⟨c, _, rfl⟩ := hd
  exact dirOf_lt _
theorem good_small {s : ByteArray} (h : goodWord s = true) : s.size ≤ 60 ∧ isW s.data.toList = true := by
  simpa [goodWord] using h
theorem isW_at {l : List UInt8} (h : isW l = true) (i : Nat) (hi : i < l.length) : letters.contains l[i] = true := List.all_eq_true.1 h _ (List.getElem_mem hi)
end Go.Proofs.YtfcifidjjbknaaaDoor.Words
