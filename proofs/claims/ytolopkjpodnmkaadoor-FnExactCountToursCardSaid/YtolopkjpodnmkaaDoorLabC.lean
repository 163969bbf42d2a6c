/- How many cells have labels, as the program counts them and as the reference does. Conditions: none. -/
import Derived.Test.YtolopkjpodnmkaaDoorBaseM
namespace Go.Proofs.YtolopkjpodnmkaaDoor.LabC
open Go.RowKit Go.Proofs.YtolopkjpodnmkaaDoor.QBo Go.Proofs.YtolopkjpodnmkaaDoorW.PrintWords Go.Proofs.YtolopkjpodnmkaaDoorW.PrintLast Go.Proofs.YtolopkjpodnmkaaDoor.Board Go.Proofs.YtolopkjpodnmkaaDoor.IsDie Go.Proofs.YtolopkjpodnmkaaDoor.BaseM
open Go.Proofs.YtolopkjpodnmkaaDoor.Split (mk)
open Go.Proofs.YtolopkjpodnmkaaDoor.Dice (Die roll)
open Go.Proofs.YtolopkjpodnmkaaDoor.ByteRow (unlab)
set_option linter.unusedVariables false
set_option linter.unusedSimpArgs false

def digB (c : UInt8) : Bool := decide (48 ≤ (c.toNat : Int)) && decide ((c.toNat : Int) ≤ 57)
theorem count_l0 (cs : List UInt8) (hl : cs.length ≤ 100) : ∀ (n i k a : Nat), i + n = cs.length → n < k → a ≤ i → QBs.spec_prCount.l0 k (a : Int) (ints cs) ((ints cs).length : Int) i = some (((a + (cs.drop i).countP digB : Nat) : Int)) := by
  have hlen : ((ints cs).length : Int) = (cs.length : Int) := by simp [ints]
  intro n
  induction n with
  | zero =>
    intro i k a hi hk ha
    obtain ⟨k, rfl⟩ : ∃ m, k = m + 1 := ⟨k - 1, by omega⟩
    rw [QBs.spec_prCount.l0, hlen, if_neg (by omega), List.drop_eq_nil_of_le (by omega)]
    rfl
  | succ n ih =>
    intro i k a hi hk ha
    obtain ⟨k, rfl⟩ : ∃ m, k = m + 1 := ⟨k - 1, by omega⟩
    have hil : i < cs.length := by omega
    have hr : rd (ints cs) (i : Int) = (cs[i].toNat : Int) := by
      rw [rd_ints]
      simp [List.getD, hil]
    rw [QBs.spec_prCount.l0, hlen, if_pos (by omega), if_pos (by omega), if_pos (by omega), hr, prDigit_eq, Option.bind_some, List.drop_eq_getElem_cons hil, List.countP_cons, BaseM.up (i := i) (by omega)]
    show (if digB cs[i] = true then _ else _) = _
    cases hd : digB cs[i] with
    | true =>
      rw [if_pos rfl, BaseM.up (i := a) (by omega), ← hlen, ih (i + 1) k (a + 1) (by omega) (by omega) (by omega)]
      simp
      omega
    | false =>
      rw [if_neg (by decide), ← hlen, ih (i + 1) k a (by omega) (by omega) (by omega)]
      simp
theorem cells_l1 (s : ByteArray) (h : IsB okL s.data.toList) (y : Nat) (hy : y < high s.data.toList) (r : List UInt8) (hr : r = (rows s.data.toList).getD y []) : ∀ (n i k : Nat) (x3 : List S67), i + n = r.length → n < k → x3.length + n ≤ 1000 →
    ∃ out : List S67, out.length = x3.length + (r.drop i).countP digB ∧ impl_grid_labelledCells.l1 k (gridOf s) x3 y (high s.data.toList) y r.length i = impl_grid_labelledCells.l0 (k - n - 1) (gridOf s) out (high s.data.toList) ((y + 1 : Nat) : Int) := by
  have hw : r.length = wide s.data.toList := by rw [hr]; exact getD_row h y hy
  have h7 := h.h7
  have w7 := h.w7
  intro n
  induction n with
  | zero =>
    intro i k x3 hi hk h3
    obtain ⟨k, rfl⟩ : ∃ m, k = m + 1 := ⟨k - 1, by omega⟩
    refine ⟨x3, ?_, ?_⟩
    · rw [List.drop_eq_nil_of_le (by omega)]
      rfl
    · rw [impl_grid_labelledCells.l1, if_neg (by omega), BaseM.up (by omega)]
      rfl
  | succ n ih =>
    intro i k x3 hi hk h3
    obtain ⟨k, rfl⟩ : ∃ m, k = m + 1 := ⟨k - 1, by omega⟩
    have hil : i < r.length := by omega
    have hc : cellAt s.data.toList (i : Int) (y : Int) = (r[i].toNat : Int) := by
      unfold cellAt
      rw [if_pos (has_iff.2 ⟨⟨by omega, by omega⟩, by omega, by omega⟩)]
      simp only [Int.toNat_natCast, ← hr]
      simp [List.getD, hil]
    rw [impl_grid_labelledCells.l1, if_pos (by omega)]
    rw [label_eq s h, Option.bind_some, hc, List.drop_eq_getElem_cons hil, List.countP_cons, BaseM.up (by omega)]
    have e : k + 1 - (n + 1) - 1 = k - n - 1 := by omega
    rw [e]
    show ∃ out : List S67, _ ∧ (if digB r[i] = true then _ else _) = _
    cases hd : digB r[i] with
    | true =>
      obtain ⟨out, o1, o2⟩ := ih (i + 1) k (x3 ++ [⟨(i : Int), (y : Int)⟩]) (by omega) (by omega) (by simp; omega)
      refine ⟨out, by rw [o1]; simp; omega, ?_⟩
      rw [if_pos rfl, if_pos (by omega)]
      exact o2
    | false =>
      obtain ⟨out, o1, o2⟩ := ih (i + 1) k x3 (by omega) (by omega) (by omega)
      refine ⟨out, by rw [o1]; simp, ?_⟩
      rw [if_neg (by decide)]
      exact o2
theorem cells_l0 (s : ByteArray) (h : IsB okL s.data.toList) : ∀ (n y k : Nat) (x3 : List S67), y + n = high s.data.toList → n * 9 < k → x3.length ≤ 7 * y →
    ∃ out : List S67, out.length = x3.length + ((rows s.data.toList).drop y).flatten.countP digB ∧ impl_grid_labelledCells.l0 k (gridOf s) x3 (high s.data.toList) y = some out := by
  have h7 := h.h7
  have w7 := h.w7
  intro n
  induction n with
  | zero =>
    intro y k x3 hy hk h3
    obtain ⟨k, rfl⟩ : ∃ m, k = m + 1 := ⟨k - 1, by omega⟩
    refine ⟨x3, ?_, ?_⟩
    · rw [List.drop_eq_nil_of_le (by unfold high at hy; omega)]
      rfl
    · rw [impl_grid_labelledCells.l0, if_neg (by omega)]
  | succ n ih =>
    intro y k x3 hy hk h3
    obtain ⟨k, rfl⟩ : ∃ m, k = m + 1 := ⟨k - 1, by omega⟩
    have hyl : y < (rows s.data.toList).length := by unfold high at hy; omega
    have hrow : rdOf ByteArray.empty (gridOf s) (y : Int) = mk ((rows s.data.toList).getD y []) := row_at _ _
    have hw : ((rows s.data.toList).getD y []).length = wide s.data.toList := getD_row h y (by omega)
    have hg : (rows s.data.toList).getD y [] = (rows s.data.toList)[y] := by simp [List.getD, hyl]
    obtain ⟨out, o1, o2⟩ := cells_l1 s h y (by omega) _ rfl (wide s.data.toList) 0 k x3 (by omega) (by omega) (by omega)
    have hcp : ((rows s.data.toList)[y]).countP digB ≤ 7 := Nat.le_trans List.countP_le_length (by rw [← hg, hw]; exact w7)
    rw [List.drop_zero, hg] at o1
    obtain ⟨out2, p1, p2⟩ := ih (y + 1) (k - wide s.data.toList - 1) out (by omega) (by omega) (by omega)
    refine ⟨out2, ?_, ?_⟩
    · rw [p1, o1, List.drop_eq_getElem_cons hyl, List.flatten_cons, List.countP_append]
      omega
    · rw [impl_grid_labelledCells.l0, if_pos (by omega), if_pos (by omega), grid_length, if_pos (by omega), hrow, mk_size]
      rw [show impl_grid_labelledCells.l1 k (gridOf s) x3 (y : Int) (high s.data.toList) (y : Int) ((((rows s.data.toList).getD y []).length : Nat) : Int) 0 = _ from o2]
      exact p2
end Go.Proofs.YtolopkjpodnmkaaDoor.LabC
