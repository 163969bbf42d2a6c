/- The call of IsCommonDie: true exactly of a die with the numbers 1 to 6 whose opposite faces make seven. -/
import Derived.Test.YtdlifinfjjbmkaaSorted
namespace Go.Proofs.Ytdlifinfjjbmkaa.Common
open Go.RowKit Go.Proofs.YtdlifinfjjbmkaaW.PrintWords Go.Proofs.Ytdlifinfjjbmkaa.IsDie Go.Proofs.Ytdlifinfjjbmkaa.Sorted Go.Sort
set_option linter.unusedVariables false
set_option linter.unusedSimpArgs false

def commonB (a0 a1 a2 a3 a4 a5 : Int) : Bool :=
  (inOrder [a0, a1, a2, a3, a4, a5] == [1, 2, 3, 4, 5, 6]) && (decide (wrap64 (a0 + a5) = 7) && (decide (wrap64 (a1 + a3) = 7) && decide (wrap64 (a2 + a4) = 7)))

theorem row_start (a0 a1 a2 a3 a4 a5 : Int) (w : World) (td ti : TypeId) :
    Row (w.heap.size + 1) (w.heap.size + 1 + 1) [a0, a1, a2, a3, a4, a5] (w.alloc (.cells #[.int .i64 a0, .int .i64 a1, .int .i64 a2, .int .i64 a3, .int .i64 a4, .int .i64 a5] td))
      (((w.alloc (.cells #[.int .i64 a0, .int .i64 a1, .int .i64 a2, .int .i64 a3, .int .i64 a4, .int .i64 a5] td)).alloc (.cells #[.int .i64 a0, .int .i64 a1, .int .i64 a2, .int .i64 a3, .int .i64 a4, .int .i64 a5] td)).alloc (.cells #[.int .i64 a0, .int .i64 a1, .int .i64 a2, .int .i64 a3, .int .i64 a4, .int .i64 a5] ti)) := by
  refine ⟨(((Below.refl _ _).alloc (by simp) _).alloc (by simp) _), by omega, by simp, ?_⟩
  refine holds_of_blockI (cur := #[.int .i64 a0, .int .i64 a1, .int .i64 a2, .int .i64 a3, .int .i64 a4, .int .i64 a5]) (e := ti) ?_ rfl
  show (((w.heap.push _).push _).push _)[w.heap.size + 1 + 1]? = _
  rw [Array.getElem?_push, if_pos (by simp)]
theorem box_at {a0 a1 a2 a3 a4 a5 : Int} {w w3 : World} {td : TypeId} (h : Below (w.heap.size + 1) (w.alloc (.cells #[.int .i64 a0, .int .i64 a1, .int .i64 a2, .int .i64 a3, .int .i64 a4, .int .i64 a5] td)) w3) (o : Obj) :
    ∀ j, j < 6 → (w3.alloc o).cell? ⟨w.heap.size, j, none⟩ = some (.int .i64 ([a0, a1, a2, a3, a4, a5].getD j 0)) := by
  intro j hj
  have hs := h.size
  have e : (w3.alloc o).heap[w.heap.size]? = some (.cells #[.int .i64 a0, .int .i64 a1, .int .i64 a2, .int .i64 a3, .int .i64 a4, .int .i64 a5] td) := by
    show (w3.heap.push o)[w.heap.size]? = _
    have : w.heap.size < w3.heap.size := by simp at hs; omega
    rw [Array.getElem?_push, if_neg (by omega), h.block _ (by omega)]
    show (w.heap.push _)[w.heap.size]? = _
    rw [Array.getElem?_push, if_pos rfl]
  rcases j with _ | _ | _ | _ | _ | _ | j <;> first | omega | (unfold World.cell?; rw [e]; rfl)
theorem equal_at {base g : Nat} {zs ys : List Int} {w0 w3 : World} (h : Row base g zs w0 w3) (hl : zs.length = 6) (hy : ys.length = 6) (cap : Nat) (ti : TypeId) :
    Calls Try.prog 70 #[.slice (some ⟨g, 0, none⟩) 6 cap, .slice (some ⟨w3.heap.size, 0, none⟩) 6 6] (w3.alloc (.cells (ys.map (Value.int .i64)).toArray ti)) fun e w' => e = .returned (.bool (zs == ys)) ∧ ∃ q, w' = (w3.alloc (.cells (ys.map (Value.int .i64)).toArray ti)).drewN q := by
  have c := Try.slices_Equal_int g 0 6 cap w3.heap.size 0 6 6 zs ys (w3.alloc (.cells (ys.map (Value.int .i64)).toArray ti)) (by omega) (by omega) (by omega) (by omega) ?_ ?_
  · rw [List.take_of_length_le (by omega), List.take_of_length_le (by omega)] at c
    exact c
  · intro j hj
    rw [Nat.zero_add, ← h.cell j hj]
    have := h.here
    show (w3.alloc _).cell? _ = _
    unfold World.cell?
    rw [show (w3.alloc (.cells (ys.map (Value.int .i64)).toArray ti)).heap[g]? = w3.heap[g]? from by
      show (w3.heap.push _)[g]? = _
      rw [Array.getElem?_push, if_neg (by omega)]]
  · intro j hj
    have e : (w3.alloc (.cells (ys.map (Value.int .i64)).toArray ti)).heap[w3.heap.size]? = some (.cells (ys.map (Value.int .i64)).toArray ti) := by
      show (w3.heap.push _)[w3.heap.size]? = _
      rw [Array.getElem?_push, if_pos rfl]
    unfold World.cell?
    rw [Nat.zero_add, e]
    simp [hj, List.getD]

set_option maxRecDepth 100000 in
set_option maxHeartbeats 4000000 in
theorem common_walk (a0 a1 a2 a3 a4 a5 : Int) (b r : Bool) (hb : (inOrder [a0, a1, a2, a3, a4, a5] == [1, 2, 3, 4, 5, 6]) = b)
    (hr : (b && (decide (wrap64 (a0 + a5) = 7) && (decide (wrap64 (a1 + a3) = 7) && decide (wrap64 (a2 + a4) = 7)))) = r) (w : World) : Calls Try.prog 40 #[.agg #[.int .i64 a0, .int .i64 a1, .int .i64 a2, .int .i64 a3, .int .i64 a4, .int .i64 a5]] w
    fun e w' => e = .returned (.bool r) ∧ Below w.heap.size w w' := by
  have HR := Lib.hid hr
  have HE := Lib.hid hb
  clear hr hb
  go_enter Try.func40, Try.ntmps40
  go_wp2_with fail
  refine (faces_calls _ _ _ _ _ _ _).mono ?_
  rintro e w2 ⟨rfl, rfl⟩
  go_wp2_with fail
  refine (sort_calls (row_start a0 a1 a2 a3 a4 a5 w 26 3) rfl).mono ?_
  rintro e w3 ⟨rfl, hr⟩
  have hc := equal_at hr (inOrder_length _) (ys := [1, 2, 3, 4, 5, 6]) rfl 6 3
  rw [HE.out] at hc
  have hbx := box_at hr.bel (.cells #[.int .i64 1, .int .i64 2, .int .i64 3, .int .i64 4, .int .i64 5, .int .i64 6] 3)
  have f0 := hbx 0 (by decide)
  have f1 := hbx 1 (by decide)
  have f2 := hbx 2 (by decide)
  have f3 := hbx 3 (by decide)
  have f4 := hbx 4 (by decide)
  have f5 := hbx 5 (by decide)
  simp only [List.getD_cons_zero, List.getD_cons_succ] at f0 f1 f2 f3 f4 f5
  have HB := Lib.hid (below_then ((Below.refl _ w).alloc (Nat.le_refl _) (.cells #[.int .i64 a0, .int .i64 a1, .int .i64 a2, .int .i64 a3, .int .i64 a4, .int .i64 a5] 26)) (by simp) (show Below _ _ w3 from Below.mono hr.bel (by simp)))
  clear hbx hr HE
  have HC := Lib.hid hc
  clear hc
  have HD := Lib.hid (show ∀ q, Below w.heap.size w ((w3.alloc (.cells #[.int .i64 1, .int .i64 2, .int .i64 3, .int .i64 4, .int .i64 5, .int .i64 6] 3)).drewN q) from fun q => by
    have hb := HB.out
    have h2 := hb.alloc (by have := hb.size; exact this) (.cells #[.int .i64 1, .int .i64 2, .int .i64 3, .int .i64 4, .int .i64 5, .int .i64 6] 3)
    exact ⟨h2.os, h2.tape, h2.output, h2.size, h2.block⟩)
  clear HB
  cases b
  · go_wp2_with fail
    refine (HC.out).mono ?_
    rintro e w' ⟨rfl, q, rfl⟩
    go_wp2_with fail
    go_ret
    exact ⟨by rw [← HR.out]; rfl, HD.out q⟩
  · go_wp2_with fail
    refine (HC.out).mono ?_
    rintro e w' ⟨rfl, q, rfl⟩
    go_wp2_with fail
    all_goals go_ret
    all_goals refine ⟨?_, HD.out q⟩
    all_goals rw [← HR.out]
    all_goals try simp_all
    all_goals try rfl
theorem common_calls (a0 a1 a2 a3 a4 a5 : Int) (w : World) : Calls Try.prog 40 #[.agg #[.int .i64 a0, .int .i64 a1, .int .i64 a2, .int .i64 a3, .int .i64 a4, .int .i64 a5]] w
    fun e w' => e = .returned (.bool (commonB a0 a1 a2 a3 a4 a5)) ∧ Below w.heap.size w w' :=
  common_walk a0 a1 a2 a3 a4 a5 _ _ rfl rfl w
end Go.Proofs.Ytdlifinfjjbmkaa.Common
