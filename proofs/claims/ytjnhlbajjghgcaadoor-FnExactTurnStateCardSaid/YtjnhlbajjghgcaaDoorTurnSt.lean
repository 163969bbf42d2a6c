/- The call that turns a state on a board: what the callees come to, put together. -/
import Derived.Test.YtjnhlbajjghgcaaDoorGridRoll
namespace Go.Proofs.YtjnhlbajjghgcaaDoor.TurnSt
open Go.RowKit Go.Proofs.YtjnhlbajjghgcaaDoorW.PrintWords Go.Proofs.YtjnhlbajjghgcaaDoor.QBo Go.Proofs.YtjnhlbajjghgcaaDoor.GridRoll
set_option linter.unusedVariables false
set_option linter.unusedSimpArgs false

def Says (a b c d e f g h : Int) (ok : Bool) (w : World) (e' : Ending) (w' : World) : Prop :=
  e' = .returned (.tuple #[.agg #[.int .i64 a, .int .i64 b, .int .i64 c, .int .i64 d, .int .i64 e, .int .i64 f, .int .i64 g, .int .i64 h], .bool ok]) ∧ Below w.heap.size w w'
set_option maxHeartbeats 4000000 in
set_option maxRecDepth 100000 in
theorem turn_walk (k : Nat) (a0 : ByteArray) (x y t n e s u b nx ny : Int) (g : List ByteArray) (w : World) (ok : Bool)
    (h1 : impl_onBoard.f k a0 x y t n e s u b = some (g, ok)) (h2 : impl_grid_turnCell.f g x y = some (nx, ny)) :
    Calls Tryd.prog 23 #[.string a0, .agg #[.int .i64 x, .int .i64 y, .int .i64 t, .int .i64 n, .int .i64 e, .int .i64 s, .int .i64 u, .int .i64 b]] w
      (if ok = true then Says nx ny t u n e s b true w else Says 0 0 0 0 0 0 0 0 false w) := by
  have H1 := Go.Lib.hid (fun W => impl_onBoard.calls k a0 x y t n e s u b g ok W h1)
  have H2 := Go.Lib.hid (fun W A c (hr : Kd.C Kd.string W A g.length g) hc => impl_grid_turnCell.calls A c g x y nx ny W hr hc h2)
  have H3 := Go.Lib.hid (fun W => impl_Die_turn.calls t n e s u b t u n e s b W rfl)
  clear h1 h2
  cases ok
  · rw [if_neg (by decide)]
    go_enter Tryd.func23, Tryd.ntmps23
    go_wp2_with fail
    refine (H1.out _).mono ?_
    rintro e' w1 ⟨v0, rfl, hR, hbel⟩
    have b1 : w1.heap[w.heap.size + 1]? = some (.cells (box8 0 0 0 0 0 0 0 0) 37) := by
      have := blk_below (blk_new (w.alloc (.cells (box8 x y t n e s u b) 37)) (.cells (box8 0 0 0 0 0 0 0 0) 37)) hbel
      simpa using this
    have HB1 := Go.Lib.hid (below_then (((Below.refl _ w).alloc (Nat.le_refl _) (.cells (box8 x y t n e s u b) 37)).alloc (by simp) (.cells (box8 0 0 0 0 0 0 0 0) 37)) (by simp; omega) hbel)
    have B1 := Go.Lib.hid b1
    have k0 : w1.cell? ⟨w.heap.size + 1, 0, none⟩ = some (.int .i64 0) := blk_cell b1 0
    have k1 : w1.cell? ⟨w.heap.size + 1, 1, none⟩ = some (.int .i64 0) := blk_cell b1 1
    have k2 : w1.cell? ⟨w.heap.size + 1, 2, none⟩ = some (.int .i64 0) := blk_cell b1 2
    have k3 : w1.cell? ⟨w.heap.size + 1, 3, none⟩ = some (.int .i64 0) := blk_cell b1 3
    have k4 : w1.cell? ⟨w.heap.size + 1, 4, none⟩ = some (.int .i64 0) := blk_cell b1 4
    have k5 : w1.cell? ⟨w.heap.size + 1, 5, none⟩ = some (.int .i64 0) := blk_cell b1 5
    have k6 : w1.cell? ⟨w.heap.size + 1, 6, none⟩ = some (.int .i64 0) := blk_cell b1 6
    have k7 : w1.cell? ⟨w.heap.size + 1, 7, none⟩ = some (.int .i64 0) := blk_cell b1 7
    have f0 := blk_frozen b1 0
    have f1 := blk_frozen b1 1
    have f2 := blk_frozen b1 2
    have f3 := blk_frozen b1 3
    have f4 := blk_frozen b1 4
    have f5 := blk_frozen b1 5
    have f6 := blk_frozen b1 6
    have f7 := blk_frozen b1 7
    clear b1 hR hbel
    go_wp2_with fail
    have b3 := B1.out
    refine bodyPost_ret (results_ct rfl _ _ (w.heap.size + 1) 37 (box8 0 0 0 0 0 0 0 0) (0, 0) _ rfl (blk_put (cs := box8 0 0 0 0 0 0 0 0) (blk_put (cs := box8 0 0 0 0 0 0 0 0) (blk_put (cs := box8 0 0 0 0 0 0 0 0) (blk_put (cs := box8 0 0 0 0 0 0 0 0) (blk_put (cs := box8 0 0 0 0 0 0 0 0) (blk_put (cs := box8 0 0 0 0 0 0 0 0) (blk_put (cs := box8 0 0 0 0 0 0 0 0) (blk_put (cs := box8 0 0 0 0 0 0 0 0) b3 0 _ rfl) 1 _ rfl) 2 _ rfl) 3 _ rfl) 4 _ rfl) 5 _ rfl) 6 _ rfl) 7 _ rfl) Tryd.underlying37 rfl (by kernel_rfl)) rfl ?_
    exact ⟨rfl, (Below.setCell (p := ⟨w.heap.size + 1, 7, none⟩) (Below.setCell (p := ⟨w.heap.size + 1, 6, none⟩) (Below.setCell (p := ⟨w.heap.size + 1, 5, none⟩) (Below.setCell (p := ⟨w.heap.size + 1, 4, none⟩) (Below.setCell (p := ⟨w.heap.size + 1, 3, none⟩) (Below.setCell (p := ⟨w.heap.size + 1, 2, none⟩) (Below.setCell (p := ⟨w.heap.size + 1, 1, none⟩) (Below.setCell (p := ⟨w.heap.size + 1, 0, none⟩) HB1.out (Nat.le_succ _) _) (Nat.le_succ _) _) (Nat.le_succ _) _) (Nat.le_succ _) _) (Nat.le_succ _) _) (Nat.le_succ _) _) (Nat.le_succ _) _) (Nat.le_succ _) _)⟩
  · rw [if_pos rfl]
    go_enter Tryd.func23, Tryd.ntmps23
    go_wp2_with fail
    refine (H1.out _).mono ?_
    rintro e' w1 ⟨v0, rfl, hR, hbel⟩
    have b0 := blk_below (blk_alloc (blk_new w (.cells (box8 x y t n e s u b) 37)) (.cells (box8 0 0 0 0 0 0 0 0) 37)) hbel
    have b1 : w1.heap[w.heap.size + 1]? = some (.cells (box8 0 0 0 0 0 0 0 0) 37) := by
      have := blk_below (blk_new (w.alloc (.cells (box8 x y t n e s u b) 37)) (.cells (box8 0 0 0 0 0 0 0 0) 37)) hbel
      simpa using this
    have HB1 := Go.Lib.hid (below_then (((Below.refl _ w).alloc (Nat.le_refl _) (.cells (box8 x y t n e s u b) 37)).alloc (by simp) (.cells (box8 0 0 0 0 0 0 0 0) 37)) (by simp; omega) hbel)
    obtain ⟨A, c, rfl, hlc, hC⟩ := Kd.R_reads hR
    have HC := Go.Lib.hid hC
    have HLC := Go.Lib.hid hlc
    have B0 := Go.Lib.hid b0
    have B1 := Go.Lib.hid b1
    have c0 : w1.cell? ⟨w.heap.size, 0, none⟩ = some (.int .i64 x) := blk_cell b0 0
    have c1 : w1.cell? ⟨w.heap.size, 1, none⟩ = some (.int .i64 y) := blk_cell b0 1
    clear b0 b1 hR hbel hC hlc
    go_wp2_with fail
    refine (H2.out w1 A c HC.out HLC.out).mono ?_
    rintro e' w2 ⟨rfl, hd⟩
    have b0 := blk_below B0.out hd.below
    have HB2 := Go.Lib.hid (below_then HB1.out HB1.out.size hd.below)
    have B2 := Go.Lib.hid (blk_below B1.out hd.below)
    clear c0 c1 B0 B1 hd
    have c2 : w2.cell? ⟨w.heap.size, 2, none⟩ = some (.int .i64 t) := blk_cell b0 2
    have c3 : w2.cell? ⟨w.heap.size, 3, none⟩ = some (.int .i64 n) := blk_cell b0 3
    have c4 : w2.cell? ⟨w.heap.size, 4, none⟩ = some (.int .i64 e) := blk_cell b0 4
    have c5 : w2.cell? ⟨w.heap.size, 5, none⟩ = some (.int .i64 s) := blk_cell b0 5
    have c6 : w2.cell? ⟨w.heap.size, 6, none⟩ = some (.int .i64 u) := blk_cell b0 6
    have c7 : w2.cell? ⟨w.heap.size, 7, none⟩ = some (.int .i64 b) := blk_cell b0 7
    clear b0
    go_wp2_with fail
    refine (H3.out w2).mono ?_
    rintro e' w3 ⟨rfl, hb⟩
    have b3 := blk_below B2.out hb
    have HB3 := Go.Lib.hid (below_then HB2.out HB2.out.size hb)
    have B3 := Go.Lib.hid b3
    have k0 : w3.cell? ⟨w.heap.size + 1, 0, none⟩ = some (.int .i64 0) := blk_cell b3 0
    have k1 : w3.cell? ⟨w.heap.size + 1, 1, none⟩ = some (.int .i64 0) := blk_cell b3 1
    have k2 : w3.cell? ⟨w.heap.size + 1, 2, none⟩ = some (.int .i64 0) := blk_cell b3 2
    have k3 : w3.cell? ⟨w.heap.size + 1, 3, none⟩ = some (.int .i64 0) := blk_cell b3 3
    have k4 : w3.cell? ⟨w.heap.size + 1, 4, none⟩ = some (.int .i64 0) := blk_cell b3 4
    have k5 : w3.cell? ⟨w.heap.size + 1, 5, none⟩ = some (.int .i64 0) := blk_cell b3 5
    have k6 : w3.cell? ⟨w.heap.size + 1, 6, none⟩ = some (.int .i64 0) := blk_cell b3 6
    have k7 : w3.cell? ⟨w.heap.size + 1, 7, none⟩ = some (.int .i64 0) := blk_cell b3 7
    have f0 := blk_frozen b3 0
    have f1 := blk_frozen b3 1
    have f2 := blk_frozen b3 2
    have f3 := blk_frozen b3 3
    have f4 := blk_frozen b3 4
    have f5 := blk_frozen b3 5
    have f6 := blk_frozen b3 6
    have f7 := blk_frozen b3 7
    clear hb b3 B2 c2 c3 c4 c5 c6 c7
    go_wp2_with fail
    have b3 := B3.out
    refine bodyPost_ret (results_ct rfl _ _ (w.heap.size + 1) 37 (box8 nx ny t u n e s b) (0, 0) _ rfl (blk_put (cs := box8 nx ny t u n e s 0) (blk_put (cs := box8 nx ny t u n e 0 0) (blk_put (cs := box8 nx ny t u n 0 0 0) (blk_put (cs := box8 nx ny t u 0 0 0 0) (blk_put (cs := box8 nx ny t 0 0 0 0 0) (blk_put (cs := box8 nx ny 0 0 0 0 0 0) (blk_put (cs := box8 nx 0 0 0 0 0 0 0) (blk_put (cs := box8 0 0 0 0 0 0 0 0) b3 0 _ rfl) 1 _ rfl) 2 _ rfl) 3 _ rfl) 4 _ rfl) 5 _ rfl) 6 _ rfl) 7 _ rfl) Tryd.underlying37 rfl (by kernel_rfl)) rfl ?_
    exact ⟨rfl, (Below.setCell (p := ⟨w.heap.size + 1, 7, none⟩) (Below.setCell (p := ⟨w.heap.size + 1, 6, none⟩) (Below.setCell (p := ⟨w.heap.size + 1, 5, none⟩) (Below.setCell (p := ⟨w.heap.size + 1, 4, none⟩) (Below.setCell (p := ⟨w.heap.size + 1, 3, none⟩) (Below.setCell (p := ⟨w.heap.size + 1, 2, none⟩) (Below.setCell (p := ⟨w.heap.size + 1, 1, none⟩) (Below.setCell (p := ⟨w.heap.size + 1, 0, none⟩) HB3.out (Nat.le_succ _) _) (Nat.le_succ _) _) (Nat.le_succ _) _) (Nat.le_succ _) _) (Nat.le_succ _) _) (Nat.le_succ _) _) (Nat.le_succ _) _) (Nat.le_succ _) _)⟩

/-- What the call answers, out of what its callees do. -/
def says (k : Nat) (a0 : ByteArray) (x y t n e s u b : Int) : Option (Int × Int × Int × Int × Int × Int × Int × Int × Bool) :=
  (impl_onBoard.f k a0 x y t n e s u b).bind fun r => if r.2 = true then some (wrap64 (wrap64 ((r.1.length : Int) - 1) - y), x, t, u, n, e, s, b, true) else some (0, 0, 0, 0, 0, 0, 0, 0, false)
theorem says_calls (k : Nat) (a0 : ByteArray) (x y t n e s u b r1 r2 r3 r4 r5 r6 r7 r8 : Int) (r9 : Bool) (w : World) (h : says k a0 x y t n e s u b = some (r1, r2, r3, r4, r5, r6, r7, r8, r9)) :
    Calls Tryd.prog 23 #[.string a0, .agg #[.int .i64 x, .int .i64 y, .int .i64 t, .int .i64 n, .int .i64 e, .int .i64 s, .int .i64 u, .int .i64 b]] w
      fun e' w' => e' = .returned (.tuple #[.agg #[.int .i64 r1, .int .i64 r2, .int .i64 r3, .int .i64 r4, .int .i64 r5, .int .i64 r6, .int .i64 r7, .int .i64 r8], .bool r9]) ∧ Below w.heap.size w w' := by
  unfold says at h
  obtain ⟨⟨g, ok⟩, h1, h⟩ := Option.bind_eq_some_iff.mp h
  have hw := turn_walk k a0 x y t n e s u b _ _ g w ok h1 rfl
  cases ok
  · simp only [Bool.false_eq_true, if_false, Option.some.injEq, Prod.mk.injEq] at h
    obtain ⟨rfl, rfl, rfl, rfl, rfl, rfl, rfl, rfl, rfl⟩ := h
    exact hw
  · simp only [if_true, Option.some.injEq, Prod.mk.injEq] at h
    obtain ⟨rfl, rfl, rfl, rfl, rfl, rfl, rfl, rfl, rfl⟩ := h
    exact hw
end Go.Proofs.YtjnhlbajjghgcaaDoor.TurnSt
