/- Words of the four letters: plain lemmas. No program in sight. -/
import Derived.Test.YtkoejpimalbhbaaDoorRows
import Derived.Test.YtkoejpimalbhbaaDoorDice
import Derived.Lib.SlTrimSet
import Derived.Lib.Strings
namespace Go.Proofs.YtkoejpimalbhbaaDoor.Dirs
open Go.Proofs.YtkoejpimalbhbaaDoor.Dice (Die roll rolled)
set_option linter.unusedVariables false
set_option linter.unusedSimpArgs false

def dirOf (c : Int) : Nat := if c = 110 then 0 else if c = 101 then 1 else if c = 115 then 2 else 3
def dirs (s : ByteArray) : List Nat := s.data.toList.map fun c => dirOf c.toNat
theorem dirs_length (s : ByteArray) : (dirs s).length = s.size := by
 rw [dirs, List.length_map]
 rfl

abbrev encDie (d : Die) : Value := .agg #[.int .i64 d.t, .int .i64 d.n, .int .i64 d.e, .int .i64 d.s, .int .i64 d.w, .int .i64 d.b]
abbrev tup (d : Die) : Int × Int × Int × Int × Int × Int := (d.t, d.n, d.e, d.s, d.w, d.b)

def letter (k : Nat) : UInt8 := if k = 0 then 110 else if k = 1 then 101 else if k = 2 then 115 else 119
def text (w : List Nat) : ByteArray := ⟨(w.map letter).toArray⟩
end Go.Proofs.YtkoejpimalbhbaaDoor.Dirs
namespace Go.Proofs.YtkoejpimalbhbaaDoor.Words
open Go.Proofs.YtkoejpimalbhbaaDoor.Dirs
set_option linter.unusedVariables false
set_option linter.unusedSimpArgs false

def letters : List UInt8 := [110, 101, 115, 119]

theorem dropWhile_nil {α : Type} (p : α → Bool) : ∀ (l : List α), l.dropWhile p = [] ↔ l.all p = true
 | [] => by simp
 | a :: l => by
  rw [List.dropWhile_cons, List.all_cons]
  by_cases h : p a = true
  ·rw [if_pos h, dropWhile_nil p l, h]
   simp
  ·rw [if_neg h]
   simp [h]
theorem all_dropWhile_end {α : Type} (p : α → Bool) (l : List α) : (l.reverse.dropWhile p).reverse.all p = l.all p := by
 rw [Bool.eq_iff_iff, List.all_reverse]
 constructor
 ·intro h
  have h2 := (dropWhile_nil p (l.reverse.dropWhile p)).2 h
  have h3 : l.reverse.dropWhile p = [] := by
   rcases hl : l.reverse.dropWhile p with _ | ⟨a, m⟩
   ·rfl
   ·exfalso
    have h4 : p a = false := by
     have := List.head?_dropWhile_not p l.reverse
     rw [hl] at this
     simpa using this
    rw [hl] at h
    simp [h4] at h
  have := (dropWhile_nil p l.reverse).1 h3
  rwa [List.all_reverse] at this
 ·intro h
  have : l.reverse.dropWhile p = [] := (dropWhile_nil p l.reverse).2 (by rw [List.all_reverse]; exact h)
  rw [this]
  rfl
theorem trim_nil (l cs : List UInt8) : (Go.Lib.trimS l cs = []) ↔ (l.all fun c => cs.contains c) = true := by
 unfold Go.Lib.trimS Go.Lib.trimLeftS Go.Lib.trimRightS
 rw [dropWhile_nil, all_dropWhile_end]

theorem one (c : UInt8) : (⟨⟨[c]⟩⟩ : ByteArray).toList = [c] := by rw [Go.Lib.toList_data]
theorem dirOf_lt (c : Int) : dirOf c < 4 := by
 unfold dirOf
 split
 ·omega
 ·split
  ·omega
  ·split <;> omega
end Go.Proofs.YtkoejpimalbhbaaDoor.Words
