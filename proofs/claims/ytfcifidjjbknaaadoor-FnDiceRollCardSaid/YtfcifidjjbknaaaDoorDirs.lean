/- Directions and words of rolls. Plain lemmas, no program in sight. -/
import Derived.Test.YtfcifidjjbknaaaDoorRows
import Derived.Test.YtfcifidjjbknaaaDoorDice
namespace Go.Proofs.YtfcifidjjbknaaaDoor.Dirs
open Go.Proofs.YtfcifidjjbknaaaDoor.Dice (Die roll rolled)
set_option linter.unusedVariables false
set_option linter.unusedSimpArgs false

def dirOf (c : Int) : Nat := if c = 110 then 0 else if c = 101 then 1 else if c = 115 then 2 else 3
def dirs (s : ByteArray) : List Nat := s.data.toList.map fun c => dirOf c.toNat
theorem dirs_length (s : ByteArray) : (dirs s).length = s.size := by
  rw [dirs, List.length_map]
  rfl

abbrev encDie (d : Die) : Value := .agg #[.int .i64 d.t, .int .i64 d.n, .int .i64 d.e, .int .i64 d.s, .int .i64 d.w, .int .i64 d.b]
abbrev tup (d : Die) : Int × Int × Int × Int × Int × Int := (d.t, d.n, d.e, d.s, d.w, d.b)

def letter (k : Nat) : UInt8 := if k = 0 then 110 else if k = 1 then 101 else if k = 2 then 115 else 119
def text (w : List Nat) : ByteArray := ⟨(w.map letter).toArray⟩
theorem text_size (w : List Nat) : (text w).size = w.length := by
  show (w.map letter).toArray.size = w.length
  simp
theorem dirs_text (w : List Nat) (hw : ∀ d ∈ w, d < 4) : dirs (text w) = w := by
  unfold dirs text
  simp only [List.map_map]
  have h : ∀ k, k < 4 → dirOf ((letter k).toNat : Int) = k := by decide
  have : (w.map fun k => dirOf ((letter k).toNat : Int)) = w.map id := List.map_congr_left (fun k hk => h k (hw k hk))
  rw [List.map_id] at this
  exact this
theorem text_snoc (w : List Nat) (k : Nat) (hk : k < 4) : text (w ++ [k]) = text w ++ ByteArray.extract ⟨#[110, 101, 115, 119]⟩ k (k + 1) := by
  have h : ∀ k, k < 4 → ByteArray.extract ⟨#[110, 101, 115, 119]⟩ k (k + 1) = ⟨#[letter k]⟩ := by decide
  rw [h k hk]
  apply ByteArray.ext
  simp [text]
end Go.Proofs.YtfcifidjjbknaaaDoor.Dirs
