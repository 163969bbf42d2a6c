/- The sorted numbers of a die: the calls of slices.Sort, with what stands behind them: the row of six is in order, and nothing below has turned. The shelf's contracts, laid at this text. -/
import Derived.Test.YtdlifinfjjbmkaaIsDie
import Derived.Test.YtdlifinfjjbmkaaShelf
import Derived.Sort.OwnSortedInts
namespace Go.Proofs.Ytdlifinfjjbmkaa.Sorted
open Go.RowKit Go.Proofs.YtdlifinfjjbmkaaW.PrintWords Go.Proofs.Ytdlifinfjjbmkaa.IsDie Go.Sort
set_option linter.unusedVariables false
set_option linter.unusedSimpArgs false

def inOrder (zs : List Int) : List Int := zs.mergeSort fun x y => decide (x ≤ y)
theorem inOrder_length (zs : List Int) : (inOrder zs).length = zs.length := List.length_mergeSort zs

/-- A row of numbers in memory that the call owns. -/
structure Row (base g : Nat) (zs : List Int) (w0 w : World) : Prop where
  bel : Below base w0 w
  old : base ≤ g
  here : g < w.heap.size
  holds : Holds (Value.int .i64) w g 0 zs.toArray

theorem Row.cell {base g : Nat} {zs : List Int} {w0 w : World} (h : Row base g zs w0 w) (j : Nat) (hj : j < zs.length) : w.cell? ⟨g, j, none⟩ = some (.int .i64 (zs.getD j 0)) := by
  have := (h.holds j (by simpa using hj)).1
  rw [Nat.zero_add] at this
  rw [this]
  simp [hj, List.getD]

theorem sort_calls {base g cap : Nat} {zs : List Int} {w0 w : World} (h : Row base g zs w0 w) (hl : zs.length = 6) :
    Calls Try.prog 69 #[.slice (some ⟨g, 0, none⟩) 6 cap] w fun e w' => e = .returned (.tuple #[]) ∧ Row base g (inOrder zs) w0 w' := by
  have c := Try.slices_Sort_int g 0 cap zs w h.holds h.here (by omega)
  rw [hl] at c
  refine c.mono ?_
  rintro e w' ⟨rfl, n, os, rfl⟩
  refine ⟨rfl, ?_, h.old, ?_, ?_⟩
  · exact h.bel.grown (grownBy_sortedI _) (Nat.le_of_lt (Nat.lt_of_le_of_lt h.old h.here)) (fun j hj => by cases hj; exact h.old)
  · have := h.here
    simp [grow, putRow, mapBlock, Sort.ahead]
    omega
  · refine holds_grow _ _ _ _ _ _ (by simpa [Sort.ahead] using h.here) ?_
    exact holds_putRow (Value.int .i64) (Sort.ahead w n) g 0 zs.toArray _ h.holds (by simp)

theorem compact_calls {base g cap : Nat} {zs : List Int} {w0 w : World} (h : Row base g zs w0 w) (hl : zs.length = 6) (hc : 6 ≤ cap) :
    Calls Try.prog 85 #[.slice (some ⟨g, 0, none⟩) 6 cap] w fun e w' => e = .returned (.slice (some ⟨g, 0, none⟩) (Lib.compact zs).length cap) ∧ Below base w0 w' := by
  have c := Try.slices_Compact_int g 0 cap zs w h.holds (by omega) (by omega)
  rw [hl] at c
  refine c.mono ?_
  rintro e w' ⟨rfl, q, rfl⟩
  refine ⟨rfl, ?_⟩
  have := h.bel.grown (grownBy_sortedI (n := q) (g := g) (os := #[]) (Lib.compact zs ++ List.replicate (6 - (Lib.compact zs).length) 0).toArray) (Nat.le_of_lt (Nat.lt_of_le_of_lt h.old h.here)) (fun j hj => by cases hj; exact h.old)
  rwa [grow_empty] at this

end Go.Proofs.Ytdlifinfjjbmkaa.Sorted
