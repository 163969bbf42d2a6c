/- Laws of a map that is only ever filled, its keys structs of whole numbers: its entries are the keys in the order in which they came. -/
import Derived.Test.YtolopkjpodnmkaaDoorRows
import Derived.Maps.OwnOps
import Derived.Maps.OwnSet
import Derived.WalkKit
import Derived.KernelRfl
import Derived.Below
import Derived.Laws.AppendOwn
namespace Go.Proofs.YtolopkjpodnmkaaDoor.Maps
open Go.RowKit
open Go.ChangeMaps (setBlock heap_setBlock_same heap_setBlock_other)
set_option linter.unusedVariables false
set_option linter.unusedSimpArgs false

/-- What the operations on a map ask of the key's type. -/
structure Fits (P : Program) (K : TypeId) {α : Type} [DecidableEq α] (enc : α → Value) : Prop where
  chk : ∀ (em : Bool) (x : α) (w : World), (Instr.checkKey em 10000 K (enc x)).run P w = .ok () w
  eql : ∀ (x y : α) (w : World), (Op.equal K (enc x) (enc y)).run P w = .ok (decide (x = y)) w
  agg : ∀ x, ∃ cs, enc x = .agg cs
  kd : ∃ d, P.underlying K = some d

section
variable {P : Program} {K : TypeId} {α : Type} {enc : α → Value} {val : Nat → Value}

def entries (enc : α → Value) (val : Nat → Value) : Nat → List α → List MapEntry
  | _, [] => []
  | j, x :: l => ⟨enc x, val j, j⟩ :: entries enc val (j + 1) l
def place [DecidableEq α] (x : α) : Nat → List α → Option Nat
  | _, [] => none
  | j, y :: l => if x = y then some j else place x (j + 1) l



def holds (w : World) (enc : α → Value) (val : Nat → Value) (b : Nat) (l : List α) : Prop := w.heap[b]? = some (.map (entries enc val 0 l).toArray l.length)



theorem place_none [DecidableEq α] : ∀ {l : List α} {x : α} {j : Nat}, place x j l = none ↔ x ∉ l
  | [], x, j => by simp [place]
  | y :: l, x, j => by
    simp only [place, List.mem_cons, not_or]
    by_cases h : x = y
    · simp [h]
    · simp [h, place_none (l := l) (x := x) (j := j + 1)]
end
end Go.Proofs.YtolopkjpodnmkaaDoor.Maps
