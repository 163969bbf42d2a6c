/- A row of bytes that a call has made of a string: read, written, made a string again. -/
import Derived.Test.YtolopkjpodnmkaaDoorRows
import Derived.Test.YtolopkjpodnmkaaDoorWOne
import Derived.Below
import Derived.OwnWalk
import Derived.WalkKit
import Derived.KernelRfl
import Derived.Deep.LoopGhost
import Derived.Lib.Hide
import Derived.Outline
import Derived.Deep.QuietTactic
import Derived.BigQuiet
import Derived.Lib.ConvBytes
import Derived.Laws.IdiomStrings
namespace Go.Proofs.YtolopkjpodnmkaaDoor.ByteRow
open Go.RowKit Go.Proofs.YtolopkjpodnmkaaDoorW.PrintWords
set_option linter.unusedVariables false
set_option linter.unusedSimpArgs false

abbrev byteCells (l : List UInt8) (z : Array Value) : Array Value := (l.map fun b => Value.int .u8 b.toNat).toArray ++ z
/-- The row of bytes that the call owns. -/
structure St (w0 wr : World) (g : Nat) (l : List UInt8) (z : Array Value) : Prop where
  bel : Below w0.heap.size w0 wr
  big : w0.heap.size ≤ g
  blk : wr.heap[g]? = some (.cells (byteCells l z) 5 ((byteCells l z).size, (byteCells l z).size + 1))
theorem St.lt {w0 wr : World} {g : Nat} {l : List UInt8} {z : Array Value} (h : St w0 wr g l z) : g < wr.heap.size := (Array.getElem?_eq_some_iff.1 h.blk).1
theorem St.read {w0 wr : World} {g : Nat} {l : List UInt8} {z : Array Value} (h : St w0 wr g l z) (j : Nat) (hj : j < l.length) : wr.cell? ⟨g, j, none⟩ = some (.int .u8 (l.getD j 0).toNat) := by
  unfold World.cell?
  rw [h.blk]
  simp [byteCells, Array.getElem?_append, hj, List.getD]
theorem St.open_ {w0 wr : World} {g : Nat} {l : List UInt8} {z : Array Value} (h : St w0 wr g l z) (j : Nat) (hj : j < l.length) : wr.frozen? ⟨g, j, none⟩ = false := by
  have hs : (byteCells l z).size = l.length + z.size := by simp [byteCells]
  simp [World.frozen?, h.blk]
  omega
theorem St.set {w0 wr : World} {g : Nat} {l : List UInt8} {z : Array Value} (h : St w0 wr g l z) (j : Nat) (hj : j < l.length) (b : UInt8) : St w0 (wr.setCell ⟨g, j, none⟩ (.int .u8 b.toNat)) g (l.set j b) z := by
  refine ⟨Below.setCell h.bel h.big _, h.big, ?_⟩
  have hb := h.blk
  have hlt := h.lt
  have e : byteCells (l.set j b) z = (byteCells l z).set! j (.int .u8 b.toNat) := by
    apply Array.ext'
    simp [byteCells, List.map_set, List.set_append, hj]
  have hsz : (byteCells (l.set j b) z).size = (byteCells l z).size := by simp [byteCells]
  rw [hsz, e]
  simp [World.setCell, World.setCells, hb, Array.getElem?_modify]
theorem St.drew {w0 wr : World} {g : Nat} {l : List UInt8} {z : Array Value} (h : St w0 wr g l z) : St w0 wr.drew g l z := ⟨h.bel.drew, h.big, h.blk⟩

theorem start (s : ByteArray) (w : World) : ∃ cap wb z, (convert 9 33 (.string s)).run Tryd.prog w = .ok (.slice (some ⟨w.heap.size, 0, none⟩) s.size cap) wb ∧ St w wb w.heap.size s.data.toList z := by
  refine ⟨_, _, Array.replicate (grownCap w s.size 0 5 - s.size) (.int .u8 0), Go.Lib.run_convert_string_bytes w _ _ 5 s Tryd.underlying9 Tryd.underlying33 Tryd.underlying5, ?_, Nat.le_refl _, ?_⟩
  · exact ⟨rfl, rfl, rfl, by rw [Go.Lib.bytesWorld_size]; omega, fun k hk => Go.Lib.bytesWorld_at_old _ _ _ _ hk⟩
  · rw [Go.Lib.bytesWorld_at_new]
    have e : Go.Lib.bytesCells w 5 s = byteCells s.data.toList (Array.replicate (grownCap w s.size 0 5 - s.size) (.int .u8 0)) := by
      unfold Go.Lib.bytesCells byteCells
      congr 1
      apply Array.ext'
      simp
    rw [e]
theorem St.below {w0 wr w1 : World} {g : Nat} {l : List UInt8} {z : Array Value} (h : St w0 wr g l z) (hb : Below wr.heap.size wr w1) : St w0 w1 g l z := ⟨below_then h.bel h.bel.size hb, h.big, blk_below h.blk hb⟩

def unlab (c : UInt8) : UInt8 := if 48 ≤ c.toNat ∧ c.toNat ≤ 57 then 46 else c
def part (i : Nat) (l : List UInt8) : List UInt8 := (l.take i).map unlab ++ l.drop i
theorem part_length (i : Nat) (l : List UInt8) : (part i l).length = l.length := by
  simp [part]
  omega
theorem part_at (i : Nat) (l : List UInt8) (hi : i < l.length) : (part i l).getD i 0 = l.getD i 0 := by
  simp [part, List.getD, List.getElem?_append, Nat.min_eq_left (Nat.le_of_lt hi)]
theorem part_set (i : Nat) (l : List UInt8) (hi : i < l.length) : (part i l).set i (unlab (l.getD i 0)) = part (i + 1) l := by
  unfold part
  have h1 : ((l.take i).map unlab).length = i := by simp; omega
  rw [List.set_append, if_neg (by omega), List.take_succ_eq_append_getElem hi, List.map_append, List.append_assoc, h1, Nat.sub_self, List.drop_eq_getElem_cons hi, List.set_cons_zero]
  simp [List.getD, hi]
theorem part_keep (i : Nat) (l : List UInt8) (hi : i < l.length) (h : ¬ (48 ≤ (l.getD i 0).toNat ∧ (l.getD i 0).toNat ≤ 57)) : part i l = part (i + 1) l := by
  unfold part
  have e : unlab l[i] = l[i] := by
    unfold unlab
    rw [if_neg]
    simpa [List.getD, hi] using h
  rw [List.take_succ_eq_append_getElem hi, List.map_append, List.append_assoc, List.map_cons, List.map_nil, e, List.drop_eq_getElem_cons hi]
  rfl
theorem part_all (l : List UInt8) : part l.length l = l.map unlab := by simp [part]
theorem part_none (l : List UInt8) : part 0 l = l := by simp [part]

theorem back {w0 wr : World} {g cap : Nat} {l : List UInt8} {z : Array Value} (h : St w0 wr g l z) (n : Nat) (hn : n = l.length) :
    (convert 33 9 (.slice (some ⟨g, 0, none⟩) n cap)).run Tryd.prog wr = .ok (.string ⟨l.toArray⟩) wr := by
  subst hn
  refine run_convert_bytes_back wr _ _ 5 _ cap l Tryd.underlying33 Tryd.underlying5 Tryd.underlying9 (fun j hj => ?_)
  have := h.read j hj
  rw [add_plain, this]
  simp [List.getD, hj]
end Go.Proofs.YtolopkjpodnmkaaDoor.ByteRow
