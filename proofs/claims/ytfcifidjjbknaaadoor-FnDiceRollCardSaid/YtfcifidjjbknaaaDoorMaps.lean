/- Laws of a map that is only ever filled, its keys structs of whole numbers: its entries are the keys in the order in which they came. -/
import Derived.Test.YtfcifidjjbknaaaDoorRows
import Derived.Maps.OwnOps
import Derived.Maps.OwnSet
import Derived.WalkKit
import Derived.KernelRfl
import Derived.Below
import Derived.Laws.AppendOwn
namespace Go.Proofs.YtfcifidjjbknaaaDoor.Maps
open Go.RowKit
open Go.ChangeMaps (setBlock heap_setBlock_same heap_setBlock_other)
set_option linter.unusedVariables false
set_option linter.unusedSimpArgs false

/-- What the operations on a map ask of the key's type. -/
structure Fits (P : Program) (K : TypeId) {α : Type} [DecidableEq α] (enc : α → Value) : Prop where
  chk : ∀ (em : Bool) (x : α) (w : World), (Instr.checkKey em 10000 K (enc x)).run P w = .ok () w
  eql : ∀ (x y : α) (w : World), (Op.equal K (enc x) (enc y)).run P w = .ok (decide (x = y)) w
  agg : ∀ x, ∃ cs, enc x = .agg cs
  kd : ∃ d, P.underlying K = some d

section
variable {P : Program} {K : TypeId} {α : Type} {enc : α → Value} {val : Nat → Value}

def entries (enc : α → Value) (val : Nat → Value) : Nat → List α → List MapEntry
  | _, [] => []
  | j, x :: l => ⟨enc x, val j, j⟩ :: entries enc val (j + 1) l
theorem entries_snoc (enc : α → Value) (val : Nat → Value) (x : α) : ∀ (j : Nat) (l : List α), entries enc val j (l ++ [x]) = entries enc val j l ++ [⟨enc x, val (j + l.length), j + l.length⟩]
  | j, [] => by simp [entries]
  | j, y :: l => by
    simp only [List.cons_append, entries, entries_snoc enc val x (j + 1) l, List.length_cons]
    rw [show j + 1 + l.length = j + (l.length + 1) from by omega]
def place [DecidableEq α] (x : α) : Nat → List α → Option Nat
  | _, [] => none
  | j, y :: l => if x = y then some j else place x (j + 1) l

theorem asking [DecidableEq α] (F : Fits P K enc) (x : α) (w : World) : ∀ (l : List α) (j : Nat), (Instr.findAsking K (enc x) (entries enc val j l) j).run P w = .ok ((place x j l).map fun i => (i, val i)) w
  | [], j => by simp [entries, Instr.findAsking, place]
  | y :: l, j => by
    simp only [entries, Instr.findAsking, place, Sem.run_bind, F.eql, Result.andThen_ok]
    by_cases h : x = y
    · simp [h]
    · simp only [h, decide_false, Bool.false_eq_true, if_false]
      exact asking F x w l (j + 1)

theorem findKey_run [DecidableEq α] (F : Fits P K enc) (x : α) (w : World) (l : List α) : (Instr.findKey K (enc x) (entries enc val 0 l)).run P w = .ok ((place x 0 l).map fun i => (i, val i)) w := by
  obtain ⟨d, hd⟩ := F.kd
  have hrun := asking (val := val) F x w l 0
  unfold Instr.findKey
  simp only [Sem.run_bind, run_underlying hd, Result.andThen_ok]
  cases l with
  | nil => simp [entries, Instr.findNow, place]
  | cons y l =>
    obtain ⟨cs, hcs⟩ := F.agg x
    obtain ⟨ds, hds⟩ := F.agg y
    have hn : Instr.findNow d (enc x) (entries enc val 0 (y :: l)) 0 = none := by
      simp only [entries, Instr.findNow, hcs, hds]
      cases d <;> rfl
    rw [hn]
    exact hrun

def holds (w : World) (enc : α → Value) (val : Nat → Value) (b : Nat) (l : List α) : Prop := w.heap[b]? = some (.map (entries enc val 0 l).toArray l.length)

theorem holds_lt {w : World} {b : Nat} {l : List α} (h : holds w enc val b l) : b < w.heap.size := (Array.getElem?_eq_some_iff.1 h).1
theorem holds_of_block {w w' : World} {b : Nat} {l : List α} (h : holds w enc val b l) (hb : w'.heap[b]? = w.heap[b]?) : holds w' enc val b l := by
  unfold holds at h ⊢
  rw [hb, h]
theorem holds_below {w w' : World} {b : Nat} {l : List α} (h : holds w enc val b l) (hb : Below w.heap.size w w') : holds w' enc val b l := holds_of_block h (hb.block b (holds_lt h))
theorem holds_grown {w w' : World} {b : Nat} {l : List α} {row : Option Nat} (h : holds w enc val b l) (hb : w.grownBy w' row) (hne : some b ≠ row) : holds w' enc val b l := holds_of_block h (hb.block b (holds_lt h) hne)

theorem look_run [DecidableEq α] (F : Fits P K enc) {T E : TypeId} (hT : P.underlying T = some (.map K E)) {z : Value} {w : World} (hz : (zeroValue E).run P w = .ok z w) {b : Nat} {l : List α} (h : holds w enc val b l) (x : α) (ok : Bool) :
    (Instr.lookup T (.map (some b)) (enc x) ok).run P w = .ok (if ok then .tuple #[((place x 0 l).map val).getD z, .bool (place x 0 l).isSome] else ((place x 0 l).map val).getD z) w := by
  unfold holds at h
  have hf := findKey_run (val := val) F x w l
  have hg : (getObj b).run P w = .ok (.map (entries enc val 0 l).toArray l.length) w := by simp [getObj, Sem.run, h]
  have hc := F.chk
  unfold Instr.lookup
  simp only [Sem.run_bind, run_underlying hT, Result.andThen_ok, hg, Sem.run_pure, hc, hf]
  cases place x 0 l with
  | none => cases ok <;> simp [hz]
  | some i => cases ok <;> simp

theorem put_run [DecidableEq α] (F : Fits P K enc) {T E : TypeId} (hT : P.underlying T = some (.map K E)) {w : World} {b : Nat} {l : List α} (h : holds w enc val b l) (x : α) (hx : place x 0 l = none) :
    (Instr.mapUpdate T (.map (some b)) (enc x) (val l.length)).run P w = .ok () (setBlock w b (.map (entries enc val 0 (l ++ [x])).toArray (l ++ [x]).length)) := by
  unfold holds at h
  have hf := findKey_run (val := val) F x w l
  rw [hx] at hf
  have hg : (getObj b).run P w = .ok (.map (entries enc val 0 l).toArray l.length) w := by simp [getObj, Sem.run, h]
  have hs : ∀ o, (setObj b o).run P w = .ok () (setBlock w b o) := fun o => by simp [setObj, Sem.run, h, setBlock]
  have hc := F.chk
  unfold Instr.mapUpdate
  simp only [Sem.run_bind, run_underlying hT, Result.andThen_ok, hg, Sem.run_pure, hc, hf, Option.map_none]
  rw [entries_snoc]
  simp [hs]
theorem holds_put {w : World} {b : Nat} {l : List α} (h : holds w enc val b l) (x : α) : holds (setBlock w b (.map (entries enc val 0 (l ++ [x])).toArray (l ++ [x]).length)) enc val b (l ++ [x]) := heap_setBlock_same h _
theorem grown_put {w : World} {b : Nat} {l : List α} (h : holds w enc val b l) (o : Obj) : w.grownBy (setBlock w b o) (some b) :=
  ⟨rfl, rfl, rfl, by simp [setBlock], fun k _ hne => heap_setBlock_other h o (fun e => hne (by rw [e]))⟩
theorem place_none [DecidableEq α] : ∀ {l : List α} {x : α} {j : Nat}, place x j l = none ↔ x ∉ l
  | [], x, j => by simp [place]
  | y :: l, x, j => by
    simp only [place, List.mem_cons, not_or]
    by_cases h : x = y
    · simp [h]
    · simp [h, place_none (l := l) (x := x) (j := j + 1)]
end
end Go.Proofs.YtfcifidjjbknaaaDoor.Maps
