/- The call that rolls a state on a board's rows: what the callees come to, put together. -/
import Derived.Test.YtolopkjpodnmkaaDoorQBox
import Derived.OwnWalk
import Derived.Deep.LoopGhost
import Derived.Lib.Hide
import Derived.Outline
import Derived.Deep.QuietTactic
import Derived.BigQuiet
namespace Go.Proofs.YtolopkjpodnmkaaDoor.GridRoll
open Go.RowKit Go.Proofs.YtolopkjpodnmkaaDoorW.PrintWords Go.Proofs.YtolopkjpodnmkaaDoor.QBo
set_option linter.unusedVariables false
set_option linter.unusedSimpArgs false

abbrev box8 (x y t n e s u b : Int) : Array Value := #[.int .i64 x, .int .i64 y, .int .i64 t, .int .i64 n, .int .i64 e, .int .i64 s, .int .i64 u, .int .i64 b]

set_option maxHeartbeats 4000000 in
set_option maxRecDepth 100000 in
theorem roll_walk (A0 : Option Addr) (c0 : Nat) (l0 : List ByteArray) (x y t n e s u b a2 nx ny r3 r4 r5 r6 r7 r8 v : Int) (w : World) (hr0 : Kd.C Kd.string w A0 l0.length l0) (hc0 : l0.length ≤ c0)
    (h1 : impl_next.f x y a2 = some (nx, ny)) (h2 : impl_Die_roll.f t n e s u b a2 = some (r3, r4, r5, r6, r7, r8)) (h3 : impl_grid_at.f l0 nx ny = some v) (q : Bool) (hq : (v == 46) = q) :
    Calls Tryd.prog 39 #[.slice A0 l0.length c0, .agg #[.int .i64 x, .int .i64 y, .int .i64 t, .int .i64 n, .int .i64 e, .int .i64 s, .int .i64 u, .int .i64 b], .int .u8 a2] w fun e w' =>
      e = .returned (.tuple #[.agg #[.int .i64 nx, .int .i64 ny, .int .i64 r3, .int .i64 r4, .int .i64 r5, .int .i64 r6, .int .i64 r7, .int .i64 r8], .bool q]) ∧ Below w.heap.size w w' := by
  have H1 := Go.Lib.hid (fun W => impl_next.calls x y a2 nx ny W h1)
  have H2 := Go.Lib.hid (fun W => impl_Die_roll.calls t n e s u b a2 r3 r4 r5 r6 r7 r8 W h2)
  have H3 := Go.Lib.hid (fun W (hb : Below w.heap.size w W) => impl_grid_at.calls A0 c0 l0 nx ny v W (Kd.C_below hr0 hb) hc0 h3)
  clear h1 h2 h3 hr0 hc0
  go_enter Tryd.func39, Tryd.ntmps39
  go_wp2_with fail
  refine (H1.out _).mono ?_
  rintro e' w1 ⟨rfl, hd⟩
  have hbel := hd.below
  have b0 := blk_below (blk_alloc (blk_new w (.cells (box8 x y t n e s u b) 30)) (.cells (box8 0 0 0 0 0 0 0 0) 30)) hbel
  have b1 : w1.heap[w.heap.size + 1]? = some (.cells (box8 0 0 0 0 0 0 0 0) 30) := by
    have := blk_below (blk_new (w.alloc (.cells (box8 x y t n e s u b) 30)) (.cells (box8 0 0 0 0 0 0 0 0) 30)) hbel
    simpa using this
  have hB1 : Below w.heap.size w w1 := below_then (((Below.refl _ w).alloc (Nat.le_refl _) (.cells (box8 x y t n e s u b) 30)).alloc (by simp) (.cells (box8 0 0 0 0 0 0 0 0) 30)) (by simp; omega) hbel
  have c2 : w1.cell? ⟨w.heap.size, 2, none⟩ = some (.int .i64 t) := blk_cell b0 2
  have c3 : w1.cell? ⟨w.heap.size, 3, none⟩ = some (.int .i64 n) := blk_cell b0 3
  have c4 : w1.cell? ⟨w.heap.size, 4, none⟩ = some (.int .i64 e) := blk_cell b0 4
  have c5 : w1.cell? ⟨w.heap.size, 5, none⟩ = some (.int .i64 s) := blk_cell b0 5
  have c6 : w1.cell? ⟨w.heap.size, 6, none⟩ = some (.int .i64 u) := blk_cell b0 6
  have c7 : w1.cell? ⟨w.heap.size, 7, none⟩ = some (.int .i64 b) := blk_cell b0 7
  have HB1 := Go.Lib.hid hB1
  have B1 := Go.Lib.hid b1
  clear hd hbel b0 b1 hB1
  go_wp2_with fail
  refine (H2.out w1).mono ?_
  rintro e' w2 ⟨rfl, hb2⟩
  have HB2 := Go.Lib.hid (below_then HB1.out HB1.out.size hb2)
  have B2 := Go.Lib.hid (blk_below B1.out hb2)
  clear hb2 c2 c3 c4 c5 c6 c7 B1
  go_wp2_with fail
  refine (H3.out w2 HB2.out).mono ?_
  rintro e' w3 ⟨rfl, hd⟩
  have b3 := blk_below B2.out hd.below
  have HB3 := Go.Lib.hid (below_then HB2.out HB2.out.size hd.below)
  have B3 := Go.Lib.hid b3
  have k0 : w3.cell? ⟨w.heap.size + 1, 0, none⟩ = some (.int .i64 0) := blk_cell b3 0
  have f0 := blk_frozen b3 0
  have k1 : w3.cell? ⟨w.heap.size + 1, 1, none⟩ = some (.int .i64 0) := blk_cell b3 1
  have f1 := blk_frozen b3 1
  have k2 : w3.cell? ⟨w.heap.size + 1, 2, none⟩ = some (.int .i64 0) := blk_cell b3 2
  have f2 := blk_frozen b3 2
  have k3 : w3.cell? ⟨w.heap.size + 1, 3, none⟩ = some (.int .i64 0) := blk_cell b3 3
  have f3 := blk_frozen b3 3
  have k4 : w3.cell? ⟨w.heap.size + 1, 4, none⟩ = some (.int .i64 0) := blk_cell b3 4
  have f4 := blk_frozen b3 4
  have k5 : w3.cell? ⟨w.heap.size + 1, 5, none⟩ = some (.int .i64 0) := blk_cell b3 5
  have f5 := blk_frozen b3 5
  have k6 : w3.cell? ⟨w.heap.size + 1, 6, none⟩ = some (.int .i64 0) := blk_cell b3 6
  have f6 := blk_frozen b3 6
  have k7 : w3.cell? ⟨w.heap.size + 1, 7, none⟩ = some (.int .i64 0) := blk_cell b3 7
  have f7 := blk_frozen b3 7
  have HQ := Go.Lib.hid hq
  clear hd b3 hq B2
  go_wp2_with fail
  have b3 := B3.out
  refine bodyPost_ret (results_ct rfl _ _ (w.heap.size + 1) 30 (box8 nx ny r3 r4 r5 r6 r7 r8) (0, 0) _ rfl (blk_put (cs := box8 nx ny r3 r4 r5 r6 r7 0) (blk_put (cs := box8 nx ny r3 r4 r5 r6 0 0) (blk_put (cs := box8 nx ny r3 r4 r5 0 0 0) (blk_put (cs := box8 nx ny r3 r4 0 0 0 0) (blk_put (cs := box8 nx ny r3 0 0 0 0 0) (blk_put (cs := box8 nx ny 0 0 0 0 0 0) (blk_put (cs := box8 nx 0 0 0 0 0 0 0) (blk_put (cs := box8 0 0 0 0 0 0 0 0) b3 0 _ rfl) 1 _ rfl) 2 _ rfl) 3 _ rfl) 4 _ rfl) 5 _ rfl) 6 _ rfl) 7 _ rfl) Tryd.underlying30 rfl (by kernel_rfl)) rfl ?_
  refine ⟨?_, ?_⟩
  · rw [← HQ.out]
    rfl
  · exact (Below.setCell (p := ⟨w.heap.size + 1, 7, none⟩) (Below.setCell (p := ⟨w.heap.size + 1, 6, none⟩) (Below.setCell (p := ⟨w.heap.size + 1, 5, none⟩) (Below.setCell (p := ⟨w.heap.size + 1, 4, none⟩) (Below.setCell (p := ⟨w.heap.size + 1, 3, none⟩) (Below.setCell (p := ⟨w.heap.size + 1, 2, none⟩) (Below.setCell (p := ⟨w.heap.size + 1, 1, none⟩) (Below.setCell (p := ⟨w.heap.size + 1, 0, none⟩) HB3.out (Nat.le_succ _) _) (Nat.le_succ _) _) (Nat.le_succ _) _) (Nat.le_succ _) _) (Nat.le_succ _) _) (Nat.le_succ _) _) (Nat.le_succ _) _) (Nat.le_succ _) _)

def says (l0 : List ByteArray) (x y t n e s u b a2 : Int) : Option (Int × Int × Int × Int × Int × Int × Int × Int × Bool) :=
  (impl_next.f x y a2).bind fun p => (impl_Die_roll.f t n e s u b a2).bind fun d => (impl_grid_at.f l0 p.1 p.2).bind fun v => some (p.1, p.2, d.1, d.2.1, d.2.2.1, d.2.2.2.1, d.2.2.2.2.1, d.2.2.2.2.2, (v == 46))
theorem says_calls (A0 : Option Addr) (c0 : Nat) (l0 : List ByteArray) (x y t n e s u b a2 r1 r2 r3 r4 r5 r6 r7 r8 : Int) (r9 : Bool) (w : World) (hr0 : Kd.C Kd.string w A0 l0.length l0) (hc0 : l0.length ≤ c0) (h : says l0 x y t n e s u b a2 = some (r1, r2, r3, r4, r5, r6, r7, r8, r9)) :
    Calls Tryd.prog 39 #[.slice A0 l0.length c0, .agg #[.int .i64 x, .int .i64 y, .int .i64 t, .int .i64 n, .int .i64 e, .int .i64 s, .int .i64 u, .int .i64 b], .int .u8 a2] w
      fun e' w' => e' = .returned (.tuple #[.agg #[.int .i64 r1, .int .i64 r2, .int .i64 r3, .int .i64 r4, .int .i64 r5, .int .i64 r6, .int .i64 r7, .int .i64 r8], .bool r9]) ∧ Below w.heap.size w w' := by
  unfold says at h
  obtain ⟨⟨nx, ny⟩, h1, h⟩ := Option.bind_eq_some_iff.mp h
  obtain ⟨⟨d1, d2, d3, d4, d5, d6⟩, h2, h⟩ := Option.bind_eq_some_iff.mp h
  obtain ⟨v, h3, h⟩ := Option.bind_eq_some_iff.mp h
  simp only [Option.some.injEq, Prod.mk.injEq] at h
  obtain ⟨rfl, rfl, rfl, rfl, rfl, rfl, rfl, rfl, hq⟩ := h
  exact roll_walk A0 c0 l0 x y t n e s u b a2 nx ny d1 d2 d3 d4 d5 d6 v w hr0 hc0 h1 h2 h3 r9 hq
end Go.Proofs.YtolopkjpodnmkaaDoor.GridRoll
