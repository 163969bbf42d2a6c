/- Directions and words of rolls. Plain lemmas, no program in sight. -/
import Derived.Test.YtolopkjpodnmkaaDoorRows
import Derived.Test.YtolopkjpodnmkaaDoorDice
namespace Go.Proofs.YtolopkjpodnmkaaDoor.Dirs
open Go.Proofs.YtolopkjpodnmkaaDoor.Dice (Die roll rolled)
set_option linter.unusedVariables false
set_option linter.unusedSimpArgs false

def dirOf (c : Int) : Nat := if c = 110 then 0 else if c = 101 then 1 else if c = 115 then 2 else 3
def dirs (s : ByteArray) : List Nat := s.data.toList.map fun c => dirOf c.toNat
theorem dirs_length (s : ByteArray) : (dirs s).length = s.size := by
  rw [dirs, List.length_map]
  rfl

abbrev encDie (d : Die) : Value := .agg #[.int .i64 d.t, .int .i64 d.n, .int .i64 d.e, .int .i64 d.s, .int .i64 d.w, .int .i64 d.b]
abbrev tup (d : Die) : Int × Int × Int × Int × Int × Int := (d.t, d.n, d.e, d.s, d.w, d.b)

def letter (k : Nat) : UInt8 := if k = 0 then 110 else if k = 1 then 101 else if k = 2 then 115 else 119
def text (w : List Nat) : ByteArray := ⟨(w.map letter).toArray⟩
end Go.Proofs.YtolopkjpodnmkaaDoor.Dirs
