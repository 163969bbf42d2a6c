/- isAt, the closure of the program's CheapestWay, reachCell, walked. Conditions: a text of no more than 2^20 bytes. -/
import Derived.Test.YtkoejpimalbhbaaDoorOn
namespace Go.Proofs.YtkoejpimalbhbaaDoor.CellR
set_option maxHeartbeats 4000000
set_option maxRecDepth 100000
open Go.Lib (hid)
open Go.RowKit Go.Proofs.YtkoejpimalbhbaaDoorW.PrintWords Go.Proofs.YtkoejpimalbhbaaDoorW.PrintLast Go.Proofs.YtkoejpimalbhbaaDoor.QBo Go.Proofs.YtkoejpimalbhbaaDoor.Board Go.Proofs.YtkoejpimalbhbaaDoor.BaseR Go.Proofs.YtkoejpimalbhbaaDoor.ReachR Go.Proofs.YtkoejpimalbhbaaDoor.Search Go.Proofs.YtkoejpimalbhbaaDoor.On
open Go.Proofs.YtkoejpimalbhbaaDoor.Reach (St)
set_option linter.unusedVariables false
set_option linter.unusedSimpArgs false

abbrev test (x y : Int) (t : St) : Bool := (t.x == x && t.y == y)
theorem isAt_walk (t : St) (x y : Int) (w : World) : Calls Tryd.prog 18 #[.agg (st8 t), .int .i64 x, .int .i64 y] w fun e w' => e = .returned (.bool (t.x == x && t.y == y)) ∧ Below w.heap.size w w' := by
 by_cases h : t.x = x
 ·have e1 : (t.x == x) = true := by simpa using h
  have d1 : decide (t.x = x) = true := decide_eq_true h
  rw [e1, Bool.true_and]
  go_enter Tryd.func18, Tryd.ntmps18
  go_wp2_with fail
  go_ret
  refine ⟨?_, (Below.refl _ w).alloc (Nat.le_refl _) _⟩
  first | rfl | (simp; done) | (simp [h]; done)
 ·have e1 : (t.x == x) = false := by simpa using h
  have d1 : decide (t.x = x) = false := decide_eq_false h
  rw [e1, Bool.false_and]
  go_enter Tryd.func18, Tryd.ntmps18
  go_wp2_with fail
  go_ret
  refine ⟨?_, (Below.refl _ w).alloc (Nat.le_refl _) _⟩
  first | rfl | (simp; done) | (simp [h]; done)
theorem test_walk (t : St) (x y : Int) (X Y : Nat) (W : World) (hX : W.heap[X]? = some (.cells #[.int .i64 x] 3 (0, 0))) (hY : W.heap[Y]? = some (.cells #[.int .i64 y] 3 (0, 0))) :
  Calls Tryd.prog 17 #[.agg (st8 t), .pointer (some ⟨X, 0, none⟩), .pointer (some ⟨Y, 0, none⟩)] W fun e w' => e = .returned (.bool (test x y t)) ∧ Below W.heap.size W w' := by
 have HI := hid (fun W => isAt_walk t x y W)
 have n0 : (W.alloc (.cells (st8 t) 30)).cell? ⟨X, 0, none⟩ = some (.int .i64 x) := blk_cell (blk_alloc hX _) 0
 have n1 : (W.alloc (.cells (st8 t) 30)).cell? ⟨Y, 0, none⟩ = some (.int .i64 y) := blk_cell (blk_alloc hY _) 0
 clear hX hY
 go_enter Tryd.func17, Tryd.ntmps17
 go_wp2_with fail
 refine (HI.out _).mono ?_
 rintro e' w1 ⟨rfl, hb⟩
 have HB := hid (below_then ((Below.refl _ W).alloc (Nat.le_refl _) (.cells (st8 t) 30)) (by simp) hb)
 clear hb n0 n1
 go_wp2_with fail
 go_ret
 exact ⟨rfl, HB.out⟩
def cellOk (s : ByteArray) (t : St) (x y : Int) : Bool := askB s t && hasB s.data.toList x y
theorem cell_walk (s : ByteArray) (hs : s.size ≤ 1048576) (t : St) (x y : Int) (w : World) :
  Calls Tryd.prog 14 #[.string s, .agg (st8 t), .int .i64 x, .int .i64 y] w fun e w' => Below w.heap.size w w' ∧ ((cellOk s t x y = false ∧ e = .returned (.tuple #[.pointer none, .bool false])) ∨
   (cellOk s t x y = true ∧ ∃ B M v0 v1 v2 v3, e = .returned (.tuple #[.pointer (some ⟨B, 0, none⟩), .bool true]) ∧ RS w w' B M (found (fl s) t) v0 v1 v2 v3)) := by
 obtain ⟨g, h1, h2⟩ := board_at s hs (s.size + 3) (by omega)
 have HC2 := hid (fun W => impl_board.calls _ _ _ _ W h1)
 clear h1
 unfold cellOk
 cases ha : askB s t with
 | false =>
  have HC := hid (fun W => on_no s hs t ha W)
  obtain ⟨q, hq⟩ : ∃ q, q = isB okB s.data.toList := ⟨_, rfl⟩
  rw [← hq] at HC2
  clear ha h2 hq
  go_enter Tryd.func14, Tryd.ntmps14
  go_wp2_with fail
  refine (HC.out _).mono ?_
  rintro e' w1 ⟨rfl, hb⟩
  have HB := hid (below_then ((Below.refl _ w).alloc (Nat.le_refl _) (.cells (st8 t) 30)) (by simp) hb)
  clear hb
  go_wp2_with fail
  refine (HC2.out _).mono ?_
  rintro e' w2 ⟨v0, rfl, hr, hb⟩
  have HB2 := hid (below_then HB.out HB.out.size hb)
  clear hr hb HB
  go_wp2_with fail
  go_ret2
  exact ⟨HB2.out, .inl ⟨rfl, rfl⟩⟩
 | true =>
  obtain ⟨hi, hg⟩ := ask_iff.1 ha
  obtain rfl := h2 (isB_iff.2 hi)
  rw [isB_iff.2 hi] at HC2
  have HC := hid (fun W => on_yes s hs t ha W)
  have HH := hid (fun A0 c0 W hr hc => impl_grid_has.calls A0 c0 (gridOf s) x y _ W hr hc (has_eq s hi x y))
  have HP := hid (grid_pos s hi)
  clear ha h2 hi hg
  obtain ⟨gr, hgr⟩ : ∃ gr, gr = gridOf s := ⟨_, rfl⟩
  obtain ⟨L, hL⟩ : ∃ L, L = found (fl s) t := ⟨_, rfl⟩
  obtain ⟨q, hq⟩ : ∃ q, q = hasB s.data.toList x y := ⟨_, rfl⟩
  rw [← hgr] at HC2 HH HP
  rw [← hL] at HC ⊢
  rw [← hq] at HH ⊢
  clear hgr hL hq
  go_enter Tryd.func14, Tryd.ntmps14
  go_wp2_with fail
  refine (HC.out _).mono ?_
  rintro e' w1 ⟨B, M, v0, v1, v2, v3, rfl, hrs⟩
  have HRS := hid (RS_lower hrs ((Below.refl _ w).alloc (Nat.le_refl _) (.cells (st8 t) 30)))
  clear hrs
  go_wp2_with fail
  refine (HC2.out _).mono ?_
  rintro e' w2 ⟨vg, rfl, hr, hb⟩
  have HRS2 := hid (RS.below HRS.out hb)
  obtain ⟨b, c, hv, _, _⟩ := R_form hr HP.out
  subst hv
  have HH2 := hid (HH.out _ _ w2 (Kd.R_reads' hr).2.2 (Kd.R_reads' hr).2.1)
  clear hr hb HRS
  go_wp2_with fail
  refine HH2.out.mono ?_
  rintro e' w3 ⟨rfl, hd⟩
  have HRS3 := hid (RS.below HRS2.out hd.below)
  clear hd HRS2 HH2
  cases q with
  | false =>
   go_wp2_with fail
   go_ret2
   exact ⟨HRS3.out.bel, .inl ⟨rfl, rfl⟩⟩
  | true =>
   go_wp2_with fail
   go_ret2
   exact ⟨HRS3.out.bel, .inr ⟨rfl, B, M, v0, v1, v2, v3, rfl, HRS3.out⟩⟩
end Go.Proofs.YtkoejpimalbhbaaDoor.CellR
