/- Plain law: states of a board and their rolls. No program in sight. -/
import Derived.Test.YtolopkjpodnmkaaDoorDice
namespace Go.Proofs.YtolopkjpodnmkaaDoor.Reach
open Dice (Die roll)

structure St where
  x : Int
  y : Int
  d : Die
deriving DecidableEq

def next (x y : Int) (k : Nat) : Int × Int := if k = 0 then (x, y - 1) else if k = 1 then (x + 1, y) else if k = 2 then (x, y + 1) else (x - 1, y)
def mv (fl : Int → Int → Bool) (s : St) (k : Nat) : Option St :=
  if fl (next s.x s.y k).1 (next s.x s.y k).2 = true then some ⟨(next s.x s.y k).1, (next s.x s.y k).2, roll s.d k⟩ else none
end Go.Proofs.YtolopkjpodnmkaaDoor.Reach
