/- What a state on a board reaches: the program's search, called. Conditions: a text of no more than 2^20 bytes. -/
import Derived.Test.YtkoejpimalbhbaaDoorSearch
import Derived.OwnWalk
import Derived.Deep.LoopGhost
import Derived.Lib.Hide
import Derived.Outline
import Derived.Deep.QuietTactic
import Derived.BigQuiet
namespace Go.Proofs.YtkoejpimalbhbaaDoor.On
set_option maxHeartbeats 4000000
set_option maxRecDepth 100000
open Go.Lib (hid)
open Go.RowKit Go.Proofs.YtkoejpimalbhbaaDoorW.PrintWords Go.Proofs.YtkoejpimalbhbaaDoor.QBo Go.Proofs.YtkoejpimalbhbaaDoor.Board Go.Proofs.YtkoejpimalbhbaaDoor.BaseR Go.Proofs.YtkoejpimalbhbaaDoor.ReachR Go.Proofs.YtkoejpimalbhbaaDoor.Search
open Go.Proofs.YtkoejpimalbhbaaDoor.Reach (St)
open Go.Proofs.YtkoejpimalbhbaaDoor.Reached (mvf byt)
open Go.Proofs.YtkoejpimalbhbaaDoor.Dirs (dirOf)
set_option linter.unusedVariables false
set_option linter.unusedSimpArgs false

theorem RS_lower {w0 w1 wr : World} {B M : Nat} {L : Bfs.Nodes St} {v0 v1 v2 v3 : Value} (h : RS w1 wr B M L v0 v1 v2 v3) (hb : Below w0.heap.size w0 w1) : RS w0 wr B M L v0 v1 v2 v3 :=
 ⟨h.blk, Kd.R_lower h.r0 hb.size, Kd.R_lower h.r1 hb.size, Kd.R_lower h.r2 hb.size, Kd.R_lower h.r3 hb.size, h.map, h.ne, below_then hb hb.size h.bel, Nat.le_trans hb.size h.big, Nat.le_trans hb.size h.bigM⟩
theorem dirOf_byt (i : Nat) (hi : i < 4) : dirOf (byt i) = i := by
 rcases i with _ | _ | _ | _ | i
 ·rfl
 ·rfl
 ·rfl
 ·rfl
 ·omega
def askB (s : ByteArray) (t : St) : Bool := isB okB s.data.toList && stateB s.data.toList t.x t.y t.d.t t.d.n t.d.e t.d.s t.d.w t.d.b
abbrev fl (s : ByteArray) := floorB s.data.toList
theorem ask_iff {s : ByteArray} {t : St} : askB s t = true ↔ IsB okB s.data.toList ∧ Gd (fl s) t := by
 unfold askB
 rw [Bool.and_eq_true, isB_iff, gd_iff]
theorem roll_calls (s : ByteArray) (h : IsB okB s.data.toList) (t : St) (ht : Gd (fl s) t) (i : Nat) (hi : i < 4) (A0 : Option Addr) (c0 : Nat) (W : World) (hr0 : Kd.C Kd.string W A0 (gridOf s).length (gridOf s)) (hc0 : (gridOf s).length ≤ c0) :
  Calls Tryd.prog 19 #[.slice A0 (gridOf s).length c0, .agg (st8 t), .int .u8 (byt i)] W fun e w' => e = .returned (.tuple #[.agg (st8 (moved t i)), .bool (canF (fl s) t i)]) ∧ Below W.heap.size W w' := by
 obtain ⟨⟨x0, x1⟩, y0, y1⟩ := (box h).inn _ _ ht.1
 have h7 := h.h7
 have w7 := h.w7
 have he := gridRoll_eq s h t (by omega) (by omega) (byt i)
 rw [dirOf_byt i hi] at he
 exact Go.Proofs.YtkoejpimalbhbaaDoor.GridRoll.says_calls A0 c0 (gridOf s) t.x t.y t.d.t t.d.n t.d.e t.d.s t.d.w t.d.b (byt i) _ _ _ _ _ _ _ _ _ W hr0 hc0 he
theorem reached_calls (s : ByteArray) (h : IsB okB s.data.toList) (t : St) (ht : Gd (fl s) t) (A0 : Option Addr) (c0 : Nat) (w : World) (hr0 : Kd.C Kd.string w A0 (gridOf s).length (gridOf s)) (hc0 : (gridOf s).length ≤ c0) :
  Calls Tryd.prog 41 #[.agg (st8 t), .func (.func 19) #[.slice A0 (gridOf s).length c0] #[]] w fun e w' =>
   ∃ B M v0 v1 v2 v3, e = .returned (.pointer (some ⟨B, 0, none⟩)) ∧ RS w w' B M (found (fl s) t) v0 v1 v2 v3 :=
 Go.Proofs.YtkoejpimalbhbaaDoor.Reached.reached_walk t _ moved (canF (fl s)) (Gd (fl s)) w ht (fun t i hg hi W hb => roll_calls s h t hg i hi A0 c0 W (Kd.C_below hr0 hb) hc0) (fun t i hg _ hc => gd_moved hg hc) (small (box h) ht)
theorem grid_pos (s : ByteArray) (h : IsB okB s.data.toList) : 0 < (gridOf s).length := by
 have h1 := grid_length s
 have h2 := h.h1
 omega
theorem on_no (s : ByteArray) (hs : s.size ≤ 1048576) (t : St) (ha : askB s t = false) (w : World) :
  Calls Tryd.prog 26 #[.string s, .agg (st8 t)] w fun e w' => e = .returned (.tuple #[.pointer none, .bool false]) ∧ Below w.heap.size w w' := by
 obtain ⟨g, h1, h2⟩ := onBoard_at s hs t.x t.y t.d.t t.d.n t.d.e t.d.s t.d.w t.d.b (s.size + 3) (by omega)
 unfold askB at ha
 rw [ha] at h1
 have HC := hid (fun W => impl_onBoard.calls _ _ _ _ _ _ _ _ _ _ _ _ W h1)
 clear h1 h2 ha
 go_enter Tryd.func26, Tryd.ntmps26
 go_wp2_with fail
 refine (HC.out _).mono ?_
 rintro e' w1 ⟨v0, rfl, hr, hb⟩
 have HB := hid (below_then ((Below.refl _ w).alloc (Nat.le_refl _) (.cells (st8 t) 30)) (by simp) hb)
 clear hr hb
 go_wp2_with fail
 go_ret2
 exact ⟨rfl, HB.out⟩
theorem on_yes (s : ByteArray) (hs : s.size ≤ 1048576) (t : St) (ha : askB s t = true) (w : World) :
  Calls Tryd.prog 26 #[.string s, .agg (st8 t)] w fun e w' => ∃ B M v0 v1 v2 v3, e = .returned (.tuple #[.pointer (some ⟨B, 0, none⟩), .bool true]) ∧ RS w w' B M (found (fl s) t) v0 v1 v2 v3 := by
 obtain ⟨g, h1, h2⟩ := onBoard_at s hs t.x t.y t.d.t t.d.n t.d.e t.d.s t.d.w t.d.b (s.size + 3) (by omega)
 obtain ⟨hi, hg⟩ := ask_iff.1 ha
 unfold askB at ha
 obtain rfl := h2 (by rw [Bool.and_eq_true] at ha; exact ha.1)
 rw [ha] at h1
 have HC := hid (fun W => impl_onBoard.calls _ _ _ _ _ _ _ _ _ _ _ _ W h1)
 have HR := hid (fun A0 c0 W => reached_calls s hi t hg A0 c0 W)
 have HP := hid (grid_pos s hi)
 clear h1 h2 ha hi hg
 obtain ⟨q, hq⟩ : ∃ q, q = gridOf s := ⟨_, rfl⟩
 rw [← hq] at HC HR HP
 clear hq
 go_enter Tryd.func26, Tryd.ntmps26
 go_wp2_with fail
 refine (HC.out _).mono ?_
 rintro e' w1 ⟨v0, rfl, hr, hb⟩
 have B0 := hid (blk_below (blk_new w (.cells (st8 t) 30)) hb)
 have HB := hid (below_then ((Below.refl _ w).alloc (Nat.le_refl _) (.cells (st8 t) 30)) (by simp) hb)
 obtain ⟨g, c, rfl, hg1, hg2⟩ := R_form hr HP.out
 have HRD := hid (Kd.R_reads' hr).2
 clear hr hb hg1 hg2
 have c0 : w1.cell? ⟨w.heap.size, 0, none⟩ = some (.int .i64 t.x) := blk_cell B0.out 0
 have c1 : w1.cell? ⟨w.heap.size, 1, none⟩ = some (.int .i64 t.y) := blk_cell B0.out 1
 have c2 : w1.cell? ⟨w.heap.size, 2, none⟩ = some (.int .i64 t.d.t) := blk_cell B0.out 2
 have c3 : w1.cell? ⟨w.heap.size, 3, none⟩ = some (.int .i64 t.d.n) := blk_cell B0.out 3
 have c4 : w1.cell? ⟨w.heap.size, 4, none⟩ = some (.int .i64 t.d.e) := blk_cell B0.out 4
 have c5 : w1.cell? ⟨w.heap.size, 5, none⟩ = some (.int .i64 t.d.s) := blk_cell B0.out 5
 have c6 : w1.cell? ⟨w.heap.size, 6, none⟩ = some (.int .i64 t.d.w) := blk_cell B0.out 6
 have c7 : w1.cell? ⟨w.heap.size, 7, none⟩ = some (.int .i64 t.d.b) := blk_cell B0.out 7
 go_wp2_with fail
 refine (HR.out _ _ w1 HRD.out.2 HRD.out.1).mono ?_
 rintro e' w2 ⟨B, M, v0, v1, v2, v3, rfl, hrs⟩
 have H2 := hid (RS_lower hrs HB.out)
 clear hrs
 go_wp2_with fail
 go_ret2
 exact ⟨B, M, v0, v1, v2, v3, rfl, H2.out⟩
end Go.Proofs.YtkoejpimalbhbaaDoor.On
