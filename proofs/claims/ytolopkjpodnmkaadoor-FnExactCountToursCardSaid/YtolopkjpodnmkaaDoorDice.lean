/- Plain law of dice: rolls, words of rolls, and the first shortest word from a die to another one. No program in sight. -/
import Derived.Test.YtolopkjpodnmkaaDoorBfs
namespace Go.Proofs.YtolopkjpodnmkaaDoor.Dice

structure Die where
  t : Int
  n : Int
  e : Int
  s : Int
  w : Int
  b : Int
  deriving DecidableEq

def roll (d : Die) : Nat → Die
  | 0 => ⟨d.s, d.t, d.e, d.b, d.w, d.n⟩
  | 1 => ⟨d.w, d.n, d.t, d.s, d.b, d.e⟩
  | 2 => ⟨d.n, d.b, d.e, d.t, d.w, d.s⟩
  | _ => ⟨d.e, d.n, d.b, d.s, d.t, d.w⟩
def rolled (d : Die) (w : List Nat) : Die := w.foldl roll d
def plain : Die := ⟨0, 1, 2, 3, 4, 5⟩
def get (d : Die) (k : Int) : Int := if k = 0 then d.t else if k = 1 then d.n else if k = 2 then d.e else if k = 3 then d.s else if k = 4 then d.w else d.b
def act (d p : Die) : Die := ⟨get d p.t, get d p.n, get d p.e, get d p.s, get d p.w, get d p.b⟩


def mv (d : Die) (k : Nat) : Option Die := some (roll d k)

def table : Bfs.Nodes Die := Bfs.search mv 25 plain

def found (d : Die) : Bfs.Nodes Die := Bfs.search mv 25 d

def short (d e : Die) : Option (List Nat) := (table.find? fun x => decide (rolled d x.2 = e)).map (·.2)


end Go.Proofs.YtolopkjpodnmkaaDoor.Dice
