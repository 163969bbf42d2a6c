/- The reference's draws of a die, a word, a direction, a number of turns: they end, whatever the code. Conditions: a code of at most 2^20 bytes. -/
import Derived.Test.YtfcifidjjbknaaaDoorCur
import Derived.Test.YtfcifidjjbknaaaDoorDiF
import Derived.Test.YtfcifidjjbknaaaDoorDiW
namespace Go.Proofs.YtfcifidjjbknaaaDoor.Draw
open Go.RowKit Go.Proofs.YtfcifidjjbknaaaDoorW.PrintWords Go.Proofs.YtfcifidjjbknaaaDoorW.PrintLast Go.Proofs.YtfcifidjjbknaaaDoor.DiF Go.Proofs.YtfcifidjjbknaaaDoor.Cur
set_option linter.unusedVariables false
set_option linter.unusedSimpArgs false

theorem Step.far {w0 W w1 : World} {g : Nat} {cs : List Int} {n : Nat} (h : Step w0 W g cs n w1) (hg : g < W.heap.size) {p : Addr} (hp : W.heap.size ≤ p.block) (v : Value) : Step w0 W g cs n (w1.setCell p v) := by
  obtain ⟨⟨⟨A0, c0, a, sd, ha, hb, hr⟩, hbig, hbel, hby⟩, hk⟩ := h
  refine ⟨⟨⟨A0, c0, a, sd, ha, blk_far hb (by omega) v, hr⟩, hbig, hbel.setCell (by omega) v, hby⟩, ?_⟩
  refine ⟨Nat.le_trans hk.1 (by simp), fun i hi h1 h2 => ?_⟩
  rw [Below.heap_setCell w1 p v i (by omega)]
  exact hk.2 i hi h1 h2
theorem Step.grown {w0 W w w1 : World} {g : Nat} {cs : List Int} {n : Nat} (h : Step w0 W g cs n w) {row : Option Nat} (hg : w.grownBy w1 row) (hne : some g ≠ row) (hrow : ∀ k, row = some k → W.heap.size ≤ k) (hW : w0.heap.size ≤ W.heap.size) : Step w0 W g cs n w1 := by
  obtain ⟨⟨⟨A0, c0, a, sd, ha, hk, hr⟩, hbig, hbel, hby⟩, hkb⟩ := h
  refine ⟨⟨⟨A0, c0, a, sd, ha, blk_grown hk hg hne, hr⟩, hbig, ⟨hg.os.trans hbel.os, hg.tape.trans hbel.tape, hg.output.trans hbel.output, Nat.le_trans hbel.size hg.size, fun k hk2 => (hg.block k (Nat.lt_of_lt_of_le hk2 hbel.size) (fun e => by have := hrow k e.symm; omega)).trans (hbel.block k hk2)⟩, hby⟩, Nat.le_trans hkb.1 hg.size, fun i hi h1 h2 => ?_⟩
  rw [hg.block i (Nat.lt_of_lt_of_le hi hkb.1) (fun e => by have := hrow i e.symm; omega)]
  exact hkb.2 i hi h1 h2
theorem infoI : (Tryd.prog.info? 3).map (fun i => (i.zero, i.size, i.bytes)) = some (some (.int .i64 0), 1, 8) := by kernel_rfl
theorem ints_cell {w : World} {base b c : Nat} {ok : Nat → Prop} {xs : List Int} (h : Kd.R (Kd.int .i64) 3 w base ok (.slice (some ⟨b, 0, none⟩) 6 c) xs) (h6 : xs.length = 6) (j : Nat) (hj : j < 6) : w.cell? ⟨b, j, none⟩ = some (.int .i64 (rd xs (j : Int))) := by
  obtain ⟨ad, e, hx⟩ := Kd.at_int (Kd.R_reads' h).2.2 (j : Int) (by omega) (by omega)
  injection e with e
  subst e
  rw [Int.toNat_natCast, add_plain] at hx
  first | exact hx | (rw [Nat.zero_add] at hx; exact hx)
/-- The result's block. -/
abbrev Z6 : Array Value := #[.int .i64 0, .int .i64 0, .int .i64 0, .int .i64 0, .int .i64 0, .int .i64 0]
def put6 (w : World) (R : Nat) (a b c d e f : Int) : World := (((((w.setCell ⟨R, 0, none⟩ (.int .i64 a)).setCell ⟨R, 1, none⟩ (.int .i64 b)).setCell ⟨R, 2, none⟩ (.int .i64 c)).setCell ⟨R, 3, none⟩ (.int .i64 d)).setCell ⟨R, 4, none⟩ (.int .i64 e)).setCell ⟨R, 5, none⟩ (.int .i64 f)
theorem put6_blk {w : World} {R : Nat} {u v x y z t : Int} (h : w.heap[R]? = some (.cells (six u v x y z t) 25 (0, 0))) (a b c d e f : Int) : (put6 w R a b c d e f).heap[R]? = some (.cells (six a b c d e f) 25 (0, 0)) := by
  have h0 : (w.setCell ⟨R, 0, none⟩ (.int .i64 a)).heap[R]? = some (.cells (six a v x y z t) 25 (0, 0)) := by simpa using blk_set h 0 (.int .i64 a)
  have h1 : ((w.setCell ⟨R, 0, none⟩ (.int .i64 a)).setCell ⟨R, 1, none⟩ (.int .i64 b)).heap[R]? = some (.cells (six a b x y z t) 25 (0, 0)) := by simpa using blk_set h0 1 (.int .i64 b)
  have h2 := by simpa using blk_set h1 2 (.int .i64 c)
  have h3 := by simpa using blk_set h2 3 (.int .i64 d)
  have h4 := by simpa using blk_set h3 4 (.int .i64 e)
  have h5 := by simpa using blk_set h4 5 (.int .i64 f)
  exact h5
theorem Step.put6 {w0 W w1 : World} {g : Nat} {cs : List Int} {n : Nat} (h : Step w0 W g cs n w1) (hg : g < W.heap.size) {R : Nat} (hR : W.heap.size ≤ R) (a b c d e f : Int) : Step w0 W g cs n (put6 w1 R a b c d e f) :=
  Step.far (Step.far (Step.far (Step.far (Step.far (Step.far h hg hR _) hg hR _) hg hR _) hg hR _) hg hR _) hg hR _
set_option maxHeartbeats 4000000 in
set_option maxRecDepth 100000 in
theorem sure_walk (g : Nat) (cs : List Int) (n : Nat) (w0 W : World) (h : CB w0 W g cs n) (hn : n < 100000) : Calls Tryd.prog 40 #[.pointer (some ⟨g, 0, none⟩)] W fun e w' =>
    ∃ a b c d x y : Int, e = .returned (.agg (six a b c d x y)) ∧ Step w0 W g cs (n + 100) w' := by
  have HG := Go.Lib.hid h.lt
  have HN := Go.Lib.hid hn
  have HS0W := Go.Lib.hid h.bel.size
  have HX := Go.Lib.hid (pick_walk g cs n 3 (by decide) w0 (W.alloc (.cells Z6 25)) (h.alloc _) (by omega))
  have HS0 := Go.Lib.hid ((step_refl h).alloc (.cells Z6 25))
  have hz := blk_new W (.cells Z6 25)
  have HZ := Go.Lib.hid hz
  clear h hn hz
  go_enter Tryd.func40, Tryd.ntmps40
  go_wp2_with fail
  refine HX.out.mono ?_
  rintro e w1 ⟨q, rfl, hq, hs⟩
  have HR := Go.Lib.hid (keep_blk hs.2 HZ.out (Nat.ne_of_gt HG.out))
  have HS := Go.Lib.hid (HS0.out.trans hs)
  clear hs HX HZ HS0
  rcases (show q = 0 ∨ q = 1 ∨ q = 2 by omega) with rfl | rfl | rfl
  · go_wp2_with fail
    have hk1 := blk_new w1 (.cells #[.int .i64 1, .int .i64 2, .int .i64 3, .int .i64 5, .int .i64 4, .int .i64 6] 3)
    refine (of_walk w1.heap.size 6 1 2 3 5 4 6 _ (blk_cell hk1 0) (blk_cell hk1 1) (blk_cell hk1 2) (blk_cell hk1 3) (blk_cell hk1 4) (blk_cell hk1 5)).mono ?_
    rintro e w2 ⟨rfl, hb⟩
    have n_HR := Go.Lib.hid (blk_below (blk_alloc HR.out (.cells #[.int .i64 1, .int .i64 2, .int .i64 3, .int .i64 5, .int .i64 4, .int .i64 6] 3)) hb)
    have n_HS := Go.Lib.hid ((HS.out.alloc (.cells #[.int .i64 1, .int .i64 2, .int .i64 3, .int .i64 5, .int .i64 4, .int .i64 6] 3)).below hb)
    clear hk1 hb HR HS
    go_wp2_with fail
    refine (DiW.ways_walk w2).mono ?_
    rintro e w3 ⟨v, rfl, ⟨xs, hl, hr⟩, hb⟩
    obtain ⟨bv, cv, rfl, hbv, _, _⟩ := Kd.R_form hr (by omega)
    rw [hl] at hr ⊢
    have HC := Go.Lib.hid (show Kd.C QDs.k25 w3 (some ⟨bv, 0, none⟩) 24 xs by have h2 := (Kd.R_reads' hr).2.2; rwa [hl] at h2)
    have HBV := Go.Lib.hid (show bv ≠ g from by have h_ := n_HS.out.1.lt; omega)
    have HR := Go.Lib.hid (blk_below n_HR.out hb)
    have HS := Go.Lib.hid (n_HS.out.below hb)
    clear hl hr hbv hb n_HR n_HS
    go_wp2_with fail
    refine (pick_walk g cs (n + 1) 24 (by decide) w0 w3 HS.out.1 (by have := HN.out; omega)).mono ?_
    rintro e w4 ⟨j, rfl, hj, hs⟩
    obtain ⟨y0, y1, y2, y3, y4, y5, e0, e1, e2, e3, e4, e5⟩ := DiW.elem HC.out (show j < 24 by omega)
    have e0 := keep_cell hs.2 e0 HBV.out
    have e1 := keep_cell hs.2 e1 HBV.out
    have e2 := keep_cell hs.2 e2 HBV.out
    have e3 := keep_cell hs.2 e3 HBV.out
    have e4 := keep_cell hs.2 e4 HBV.out
    have e5 := keep_cell hs.2 e5 HBV.out
    have n_HR := Go.Lib.hid (keep_blk hs.2 HR.out (Nat.ne_of_gt HG.out))
    have n_HS := Go.Lib.hid (HS.out.trans hs)
    have j0 : (0 : Int) ≤ (j : Int) := by omega
    clear hs HR HS
    have HR := n_HR
    have HS := n_HS
    clear n_HR n_HS
    have z0 : w4.cell? ⟨W.heap.size, 0, none⟩ = some (.int .i64 0) := blk_cell HR.out 0
    have zf0 := blk_frozen HR.out 0
    have z1 : w4.cell? ⟨W.heap.size, 1, none⟩ = some (.int .i64 0) := blk_cell HR.out 1
    have zf1 := blk_frozen HR.out 1
    have z2 : w4.cell? ⟨W.heap.size, 2, none⟩ = some (.int .i64 0) := blk_cell HR.out 2
    have zf2 := blk_frozen HR.out 2
    have z3 : w4.cell? ⟨W.heap.size, 3, none⟩ = some (.int .i64 0) := blk_cell HR.out 3
    have zf3 := blk_frozen HR.out 3
    have z4 : w4.cell? ⟨W.heap.size, 4, none⟩ = some (.int .i64 0) := blk_cell HR.out 4
    have zf4 := blk_frozen HR.out 4
    have z5 : w4.cell? ⟨W.heap.size, 5, none⟩ = some (.int .i64 0) := blk_cell HR.out 5
    have zf5 := blk_frozen HR.out 5
    go_wp2_with fail
    have hR2 := put6_blk HR.out y0 y1 y2 y3 y4 y5
    refine bodyPost_ret (results_cell_row rfl _ _ W.heap.size 25 (six y0 y1 y2 y3 y4 y5) (0, 0) _ rfl hR2 Tryd.underlying25 rfl (by kernel_rfl)) rfl ?_
    exact ⟨_, _, _, _, _, _, rfl, Step.put6 (Step.mono HS.out (by omega)) HG.out (Nat.le_refl _) _ _ _ _ _ _⟩
  · go_wp2_with fail
    have HW := Go.Lib.hid HS0W.out
    go_loopw [3, 4] (fun v3 v4 wr => ∃ (i : Nat) (xs : List Int), v4 = .int .i64 (i : Int) ∧ i ≤ 6 ∧ xs.length = i ∧ Kd.R (Kd.int .i64) 3 wr W.heap.size (fun k => k ≠ g) v3 xs ∧ wr.heap[W.heap.size]? = some (.cells Z6 25 (0, 0)) ∧ Step w0 W g cs (n + 1 + i) wr) (fun _ v4 _ => 6 - (intOf v4).toNat)
    case atStart => exact ⟨0, [], rfl, by omega, rfl, Kd.R_nil _ _ _ _ _, HR.out, HS.out⟩
    case round =>
      obtain ⟨i, xs, rfl, hi, hl, hr, hR, hs⟩ := hrel
      have n_HR := Go.Lib.hid hR
      have n_HS := Go.Lib.hid hs
      have HO := Go.Lib.hid hr
      have HL := Go.Lib.hid hl
      clear HR HS hR hs hr hl
      by_cases h6 : i < 6
      · have q1 : (i : Int) < 6 := by omega
        have q2 : IntKind.i64.wrap ((i : Int) + 1) = ((i + 1 : Nat) : Int) := by rw [IntKind.wrap_i64]; omega
        have HI := Go.Lib.hid h6
        clear hi h6
        go_wp2_with fail
        refine (pick_walk g cs (n + 1 + i) 2 (by decide) w0 _ n_HS.out.1 (by have := HN.out; have := HI.out; omega)).mono ?_
        rintro e w2 ⟨j, rfl, hj, hs⟩
        have HR := Go.Lib.hid (keep_blk hs.2 n_HR.out (Nat.ne_of_gt HG.out))
        have HS := Go.Lib.hid (n_HS.out.trans hs)
        have HO2 := Go.Lib.hid (Kd.R_keep HO.out hs.2 (fun _ hk => hk))
        clear hs hj n_HR n_HS HO
        go_wp2_with ((with_reducible refine gate_builtin (b := .append) (xs := #[.tmp 24, .tmp 27]) rfl ?_); at_builtin; refine Kd.R_append (Kd.int .i64) (w0 := w2) W.heap.size rfl (.tmp 24) (.tmp 27) 60 3 (.int .i64 0) 8 rfl Tryd.underlying60 infoI rfl (by decide) (by decide) _ xs (j : Int) [.int .i64 (j : Int)] (fun k => k ≠ g) (fun _ => False) rfl rfl rfl (fun _ hk => hk.elim) (fun k hk => by have h_ := HG.out; have h2_ := HS.out.2.1; omega) HO2.out (Below.refl _ w2) HS.out.2.1 (by have h_ := HL.out; have h2_ := HI.out; omega) ?_; intro v1 w5 ho hb hg hat; have n_HR := Go.Lib.hid (blk_grown HR.out hg (Kd.R_ne HO2.out HR.out (by decide))); have n_HS := Go.Lib.hid (Step.grown HS.out hg (Kd.R_away HO2.out (fun _ hk => hk)) (Kd.R_base HO2.out) HW.out); have n_HO := Go.Lib.hid ho; clear HR HS HO2 ho hb hg hat)
        exact ⟨⟨i + 1, _, by rw [Int.natCast_add]; rfl, HI.out, by rw [List.length_append, HL.out]; rfl, n_HO.out, n_HR.out, n_HS.out⟩, by have := HI.out; simp [intOf]; omega⟩
      · obtain rfl : i = 6 := by omega
        obtain ⟨b6, c6, rfl, _, _, _⟩ := Kd.R_form HO.out (by have := HL.out; omega)
        have hO := HO.out
        rw [HL.out] at hO ⊢
        clear HO hi h6
        go_wp2_with fail
        refine (of_walk b6 c6 _ _ _ _ _ _ _ (ints_cell hO HL.out 0 (by decide)) (ints_cell hO HL.out 1 (by decide)) (ints_cell hO HL.out 2 (by decide)) (ints_cell hO HL.out 3 (by decide)) (ints_cell hO HL.out 4 (by decide)) (ints_cell hO HL.out 5 (by decide))).mono ?_
        rintro e w6 ⟨rfl, hb⟩
        have HR := Go.Lib.hid (blk_below n_HR.out hb)
        have HS := Go.Lib.hid (n_HS.out.below hb)
        clear hb n_HR n_HS hO
        have z0 : w6.cell? ⟨W.heap.size, 0, none⟩ = some (.int .i64 0) := blk_cell HR.out 0
        have zf0 := blk_frozen HR.out 0
        have z1 : w6.cell? ⟨W.heap.size, 1, none⟩ = some (.int .i64 0) := blk_cell HR.out 1
        have zf1 := blk_frozen HR.out 1
        have z2 : w6.cell? ⟨W.heap.size, 2, none⟩ = some (.int .i64 0) := blk_cell HR.out 2
        have zf2 := blk_frozen HR.out 2
        have z3 : w6.cell? ⟨W.heap.size, 3, none⟩ = some (.int .i64 0) := blk_cell HR.out 3
        have zf3 := blk_frozen HR.out 3
        have z4 : w6.cell? ⟨W.heap.size, 4, none⟩ = some (.int .i64 0) := blk_cell HR.out 4
        have zf4 := blk_frozen HR.out 4
        have z5 : w6.cell? ⟨W.heap.size, 5, none⟩ = some (.int .i64 0) := blk_cell HR.out 5
        have zf5 := blk_frozen HR.out 5
        go_wp2_with fail
        have hR2 := put6_blk HR.out (rd xs ((0 : Nat) : Int)) (rd xs ((1 : Nat) : Int)) (rd xs ((2 : Nat) : Int)) (rd xs ((3 : Nat) : Int)) (rd xs ((4 : Nat) : Int)) (rd xs ((5 : Nat) : Int))
        refine bodyPost_ret (results_cell_row rfl _ _ W.heap.size 25 (six (rd xs ((0 : Nat) : Int)) (rd xs ((1 : Nat) : Int)) (rd xs ((2 : Nat) : Int)) (rd xs ((3 : Nat) : Int)) (rd xs ((4 : Nat) : Int)) (rd xs ((5 : Nat) : Int))) (0, 0) _ rfl hR2 Tryd.underlying25 rfl (by kernel_rfl)) rfl ?_
        exact ⟨_, _, _, _, _, _, rfl, Step.put6 (Step.mono HS.out (by omega)) HG.out (Nat.le_refl _) _ _ _ _ _ _⟩
  · go_wp2_with fail
    have HW := Go.Lib.hid HS0W.out
    go_loopw [5, 6] (fun v5 v6 wr => ∃ (i : Nat) (xs : List Int), v6 = .int .i64 (i : Int) ∧ i ≤ 6 ∧ xs.length = i ∧ Kd.R (Kd.int .i64) 3 wr W.heap.size (fun k => k ≠ g) v5 xs ∧ wr.heap[W.heap.size]? = some (.cells Z6 25 (0, 0)) ∧ Step w0 W g cs (n + 1 + i) wr) (fun _ v6 _ => 6 - (intOf v6).toNat)
    case atStart => exact ⟨0, [], rfl, by omega, rfl, Kd.R_nil _ _ _ _ _, HR.out, HS.out⟩
    case round =>
      obtain ⟨i, xs, rfl, hi, hl, hr, hR, hs⟩ := hrel
      have n_HR := Go.Lib.hid hR
      have n_HS := Go.Lib.hid hs
      have HO := Go.Lib.hid hr
      have HL := Go.Lib.hid hl
      clear HR HS hR hs hr hl
      by_cases h6 : i < 6
      · have q1 : (i : Int) < 6 := by omega
        have q2 : IntKind.i64.wrap ((i : Int) + 1) = ((i + 1 : Nat) : Int) := by rw [IntKind.wrap_i64]; omega
        have HI := Go.Lib.hid h6
        clear hi h6
        go_wp2_with fail
        refine (pick_walk g cs (n + 1 + i) 10 (by decide) w0 _ n_HS.out.1 (by have := HN.out; have := HI.out; omega)).mono ?_
        rintro e w2 ⟨j, rfl, hj, hs⟩
        have HR := Go.Lib.hid (keep_blk hs.2 n_HR.out (Nat.ne_of_gt HG.out))
        have HS := Go.Lib.hid (n_HS.out.trans hs)
        have HO2 := Go.Lib.hid (Kd.R_keep HO.out hs.2 (fun _ hk => hk))
        clear hs hj n_HR n_HS HO
        go_wp2_with ((with_reducible refine gate_builtin (b := .append) (xs := #[.tmp 35, .tmp 38]) rfl ?_); at_builtin; refine Kd.R_append (Kd.int .i64) (w0 := w2) W.heap.size rfl (.tmp 35) (.tmp 38) 60 3 (.int .i64 0) 8 rfl Tryd.underlying60 infoI rfl (by decide) (by decide) _ xs (j : Int) [.int .i64 (j : Int)] (fun k => k ≠ g) (fun _ => False) rfl rfl rfl (fun _ hk => hk.elim) (fun k hk => by have h_ := HG.out; have h2_ := HS.out.2.1; omega) HO2.out (Below.refl _ w2) HS.out.2.1 (by have h_ := HL.out; have h2_ := HI.out; omega) ?_; intro v1 w5 ho hb hg hat; have n_HR := Go.Lib.hid (blk_grown HR.out hg (Kd.R_ne HO2.out HR.out (by decide))); have n_HS := Go.Lib.hid (Step.grown HS.out hg (Kd.R_away HO2.out (fun _ hk => hk)) (Kd.R_base HO2.out) HW.out); have n_HO := Go.Lib.hid ho; clear HR HS HO2 ho hb hg hat)
        exact ⟨⟨i + 1, _, by rw [Int.natCast_add]; rfl, HI.out, by rw [List.length_append, HL.out]; rfl, n_HO.out, n_HR.out, n_HS.out⟩, by have := HI.out; simp [intOf]; omega⟩
      · obtain rfl : i = 6 := by omega
        obtain ⟨b6, c6, rfl, _, _, _⟩ := Kd.R_form HO.out (by have := HL.out; omega)
        have hO := HO.out
        rw [HL.out] at hO ⊢
        clear HO hi h6
        go_wp2_with fail
        refine (of_walk b6 c6 _ _ _ _ _ _ _ (ints_cell hO HL.out 0 (by decide)) (ints_cell hO HL.out 1 (by decide)) (ints_cell hO HL.out 2 (by decide)) (ints_cell hO HL.out 3 (by decide)) (ints_cell hO HL.out 4 (by decide)) (ints_cell hO HL.out 5 (by decide))).mono ?_
        rintro e w6 ⟨rfl, hb⟩
        have HR := Go.Lib.hid (blk_below n_HR.out hb)
        have HS := Go.Lib.hid (n_HS.out.below hb)
        clear hb n_HR n_HS hO
        have z0 : w6.cell? ⟨W.heap.size, 0, none⟩ = some (.int .i64 0) := blk_cell HR.out 0
        have zf0 := blk_frozen HR.out 0
        have z1 : w6.cell? ⟨W.heap.size, 1, none⟩ = some (.int .i64 0) := blk_cell HR.out 1
        have zf1 := blk_frozen HR.out 1
        have z2 : w6.cell? ⟨W.heap.size, 2, none⟩ = some (.int .i64 0) := blk_cell HR.out 2
        have zf2 := blk_frozen HR.out 2
        have z3 : w6.cell? ⟨W.heap.size, 3, none⟩ = some (.int .i64 0) := blk_cell HR.out 3
        have zf3 := blk_frozen HR.out 3
        have z4 : w6.cell? ⟨W.heap.size, 4, none⟩ = some (.int .i64 0) := blk_cell HR.out 4
        have zf4 := blk_frozen HR.out 4
        have z5 : w6.cell? ⟨W.heap.size, 5, none⟩ = some (.int .i64 0) := blk_cell HR.out 5
        have zf5 := blk_frozen HR.out 5
        go_wp2_with fail
        have hR2 := put6_blk HR.out (rd xs ((0 : Nat) : Int)) (rd xs ((1 : Nat) : Int)) (rd xs ((2 : Nat) : Int)) (rd xs ((3 : Nat) : Int)) (rd xs ((4 : Nat) : Int)) (rd xs ((5 : Nat) : Int))
        refine bodyPost_ret (results_cell_row rfl _ _ W.heap.size 25 (six (rd xs ((0 : Nat) : Int)) (rd xs ((1 : Nat) : Int)) (rd xs ((2 : Nat) : Int)) (rd xs ((3 : Nat) : Int)) (rd xs ((4 : Nat) : Int)) (rd xs ((5 : Nat) : Int))) (0, 0) _ rfl hR2 Tryd.underlying25 rfl (by kernel_rfl)) rfl ?_
        exact ⟨_, _, _, _, _, _, rfl, Step.put6 (Step.mono HS.out (by omega)) HG.out (Nat.le_refl _) _ _ _ _ _ _⟩
theorem set6 {W : World} {b : Nat} {x0 x1 x2 x3 x4 x5 : Int} (h : W.heap[b]? = some (.cells (six x0 x1 x2 x3 x4 x5) 3 (0, 0))) {j : Nat} (hj : j < 6) (v : Int) : ∃ y0 y1 y2 y3 y4 y5 : Int, (W.setCell ⟨b, j, none⟩ (.int .i64 v)).heap[b]? = some (.cells (six y0 y1 y2 y3 y4 y5) 3 (0, 0)) := by
  rcases (show j = 0 ∨ j = 1 ∨ j = 2 ∨ j = 3 ∨ j = 4 ∨ j = 5 by omega) with rfl | rfl | rfl | rfl | rfl | rfl
  · exact ⟨v, x1, x2, x3, x4, x5, by simpa using blk_set h 0 (.int .i64 v)⟩
  · exact ⟨x0, v, x2, x3, x4, x5, by simpa using blk_set h 1 (.int .i64 v)⟩
  · exact ⟨x0, x1, v, x3, x4, x5, by simpa using blk_set h 2 (.int .i64 v)⟩
  · exact ⟨x0, x1, x2, v, x4, x5, by simpa using blk_set h 3 (.int .i64 v)⟩
  · exact ⟨x0, x1, x2, x3, v, x5, by simpa using blk_set h 4 (.int .i64 v)⟩
  · exact ⟨x0, x1, x2, x3, x4, v, by simpa using blk_set h 5 (.int .i64 v)⟩
set_option maxHeartbeats 4000000 in
set_option maxRecDepth 100000 in
theorem die_walk (g : Nat) (cs : List Int) (n : Nat) (w0 W : World) (h : CB w0 W g cs n) (hn : n < 50000) : Calls Tryd.prog 18 #[.pointer (some ⟨g, 0, none⟩)] W fun e w' =>
    ∃ a b c d x y : Int, e = .returned (.agg (six a b c d x y)) ∧ Step w0 W g cs (n + 200) w' := by
  have HG := Go.Lib.hid h.lt
  have HN := Go.Lib.hid hn
  have HX := Go.Lib.hid (sure_walk g cs n w0 (W.alloc (.cells Z6 25)) (h.alloc _) (by omega))
  have HS0 := Go.Lib.hid ((step_refl h).alloc (.cells Z6 25))
  have HZ := Go.Lib.hid (blk_new W (.cells Z6 25))
  clear h hn
  go_enter Tryd.func18, Tryd.ntmps18
  go_wp2_with fail
  refine HX.out.mono ?_
  rintro e w1 ⟨a0, a1, a2, a3, a4, a5, rfl, hs⟩
  have HR := Go.Lib.hid (keep_blk hs.2 HZ.out (Nat.ne_of_gt HG.out))
  have HS := Go.Lib.hid (HS0.out.trans hs)
  clear hs HX HZ HS0
  go_upto_region 2 with fail
  have n_HR := Go.Lib.hid (blk_alloc HR.out (.cells (six a0 a1 a2 a3 a4 a5) 25))
  have n_HS := Go.Lib.hid (HS.out.alloc (.cells (six a0 a1 a2 a3 a4 a5) 25))
  have n_HD := Go.Lib.hid (blk_new w1 (.cells (six a0 a1 a2 a3 a4 a5) 25))
  obtain ⟨D, hD⟩ : ∃ D, D = w1.heap.size := ⟨_, rfl⟩
  have HDG := Go.Lib.hid (show D ≠ g ∧ W.heap.size ≤ D from by have h1 := HS.out.1.lt; have h2 := HS.out.2.1; omega)
  rw [← hD] at n_HD ⊢
  clear hD HR HS
  generalize World.alloc _ _ = w2 at n_HR n_HS n_HD ⊢
  go_wp2_with fail
  refine (one_walk g cs (n + 100) 14 (by decide) w0 w2 n_HS.out.1 (by have := HN.out; omega)).mono ?_
  rintro e w3 ⟨q, rfl, hs⟩
  have HR := Go.Lib.hid (keep_blk hs.2 n_HR.out (Nat.ne_of_gt HG.out))
  have HD := Go.Lib.hid (keep_blk hs.2 n_HD.out HDG.out.1)
  have HS := Go.Lib.hid (n_HS.out.trans hs)
  clear hs n_HR n_HS n_HD
  have d0 : w3.cell? ⟨D, 0, none⟩ = some (.int .i64 a0) := blk_cell HD.out 0
  have d1 : w3.cell? ⟨D, 1, none⟩ = some (.int .i64 a1) := blk_cell HD.out 1
  have d2 : w3.cell? ⟨D, 2, none⟩ = some (.int .i64 a2) := blk_cell HD.out 2
  have d3 : w3.cell? ⟨D, 3, none⟩ = some (.int .i64 a3) := blk_cell HD.out 3
  have d4 : w3.cell? ⟨D, 4, none⟩ = some (.int .i64 a4) := blk_cell HD.out 4
  have d5 : w3.cell? ⟨D, 5, none⟩ = some (.int .i64 a5) := blk_cell HD.out 5
  cases q with
  | true =>
    go_wp2_with fail
    refine (faces_walk a0 a1 a2 a3 a4 a5 w3).mono ?_
    rintro e w4 ⟨F, rfl, hF, hFb, hb⟩
    have n_HR := Go.Lib.hid (blk_below HR.out hb)
    have n_HS := Go.Lib.hid (HS.out.below hb)
    have HF := Go.Lib.hid hFb
    have HFG := Go.Lib.hid (show F ≠ g ∧ W.heap.size ≤ F ∧ F ≠ W.heap.size from by
      have h1 := HS.out.1.lt; have h2 := HS.out.2.1; have h3 := (Array.getElem?_eq_some_iff.1 HR.out).1; omega)
    clear HR HS hF hFb hb d0 d1 d2 d3 d4 d5
    go_wp2_with fail
    refine (pick_walk g cs (n + 101) 6 (by decide) w0 w4 n_HS.out.1 (by have := HN.out; omega)).mono ?_
    rintro e w5 ⟨j, rfl, hj, hs⟩
    have HR := Go.Lib.hid (keep_blk hs.2 n_HR.out (Nat.ne_of_gt HG.out))
    have n_HF := Go.Lib.hid (keep_blk hs.2 HF.out HFG.out.1)
    have HS := Go.Lib.hid (n_HS.out.trans hs)
    have HJ := Go.Lib.hid hj
    clear hs n_HR n_HS HF hj
    go_wp2_with fail
    have hk := blk_new w5 (.cells #[.int .i64 (-1), .int .i64 9, .int .i64 10, .int .i64 4611686018427387904] 3)
    refine (among_walk g cs (n + 102) w5.heap.size (Nat.ne_of_gt HS.out.1.lt) w0 _ (HS.out.alloc (.cells #[.int .i64 (-1), .int .i64 9, .int .i64 10, .int .i64 4611686018427387904] 3)).1 (by have := HN.out; omega) (fun j hj => by
      rcases (show j = 0 ∨ j = 1 ∨ j = 2 ∨ j = 3 by omega) with rfl | rfl | rfl | rfl
      · exact ⟨_, blk_cell hk 0⟩
      · exact ⟨_, blk_cell hk 1⟩
      · exact ⟨_, blk_cell hk 2⟩
      · exact ⟨_, blk_cell hk 3⟩)).mono ?_
    rintro e w6 ⟨v, rfl, hs⟩
    have n_HR := Go.Lib.hid (keep_blk hs.2 (blk_alloc HR.out _) (Nat.ne_of_gt HG.out))
    have HF := Go.Lib.hid (keep_blk hs.2 (blk_alloc n_HF.out _) HFG.out.1)
    have n_HS := Go.Lib.hid ((HS.out.alloc _).trans hs)
    clear hs HR HS n_HF hk
    obtain ⟨x, hx⟩ := cell6 HF.out (show j < 6 by have := HJ.out; omega)
    have fx := blk_frozen HF.out j
    have j0 : (0 : Int) ≤ (j : Int) := by omega
    have j1 : (j : Int) < 6 := HJ.out
    obtain ⟨y0, y1, y2, y3, y4, y5, hy⟩ := set6 HF.out (show j < 6 by have := HJ.out; omega) v
    have n_HF := Go.Lib.hid hy
    clear hy
    go_wp2_with fail
    have n2_HR := Go.Lib.hid (blk_far (p := ⟨F, j, none⟩) n_HR.out (Ne.symm HFG.out.2.2) (.int .i64 v))
    have n2_HS := Go.Lib.hid (Step.far n_HS.out HG.out (p := ⟨F, j, none⟩) HFG.out.2.1 (.int .i64 v))
    clear hx fx HF n_HR n_HS
    generalize World.setCell _ _ _ = w7 at n_HF n2_HR n2_HS ⊢
    have hf := n_HF.out
    refine (of_walk F 6 y0 y1 y2 y3 y4 y5 w7 (blk_cell hf 0) (blk_cell hf 1) (blk_cell hf 2) (blk_cell hf 3) (blk_cell hf 4) (blk_cell hf 5)).mono ?_
    rintro e w8 ⟨rfl, hb⟩
    have HR := Go.Lib.hid (blk_below n2_HR.out hb)
    have HS := Go.Lib.hid (n2_HS.out.below hb)
    clear hf hb n2_HR n2_HS n_HF HD
    have z0 : w8.cell? ⟨W.heap.size, 0, none⟩ = some (.int .i64 0) := blk_cell HR.out 0
    have zf0 := blk_frozen HR.out 0
    have z1 : w8.cell? ⟨W.heap.size, 1, none⟩ = some (.int .i64 0) := blk_cell HR.out 1
    have zf1 := blk_frozen HR.out 1
    have z2 : w8.cell? ⟨W.heap.size, 2, none⟩ = some (.int .i64 0) := blk_cell HR.out 2
    have zf2 := blk_frozen HR.out 2
    have z3 : w8.cell? ⟨W.heap.size, 3, none⟩ = some (.int .i64 0) := blk_cell HR.out 3
    have zf3 := blk_frozen HR.out 3
    have z4 : w8.cell? ⟨W.heap.size, 4, none⟩ = some (.int .i64 0) := blk_cell HR.out 4
    have zf4 := blk_frozen HR.out 4
    have z5 : w8.cell? ⟨W.heap.size, 5, none⟩ = some (.int .i64 0) := blk_cell HR.out 5
    have zf5 := blk_frozen HR.out 5
    go_wp2_with fail
    have hR2 := put6_blk HR.out y0 y1 y2 y3 y4 y5
    refine bodyPost_ret (results_cell_row rfl _ _ W.heap.size 25 (six y0 y1 y2 y3 y4 y5) (0, 0) _ rfl hR2 Tryd.underlying25 rfl (by kernel_rfl)) rfl ?_
    exact ⟨_, _, _, _, _, _, rfl, Step.put6 (Step.mono HS.out (by omega)) HG.out (Nat.le_refl _) _ _ _ _ _ _⟩
  | false =>
    have z0 : w3.cell? ⟨W.heap.size, 0, none⟩ = some (.int .i64 0) := blk_cell HR.out 0
    have zf0 := blk_frozen HR.out 0
    have z1 : w3.cell? ⟨W.heap.size, 1, none⟩ = some (.int .i64 0) := blk_cell HR.out 1
    have zf1 := blk_frozen HR.out 1
    have z2 : w3.cell? ⟨W.heap.size, 2, none⟩ = some (.int .i64 0) := blk_cell HR.out 2
    have zf2 := blk_frozen HR.out 2
    have z3 : w3.cell? ⟨W.heap.size, 3, none⟩ = some (.int .i64 0) := blk_cell HR.out 3
    have zf3 := blk_frozen HR.out 3
    have z4 : w3.cell? ⟨W.heap.size, 4, none⟩ = some (.int .i64 0) := blk_cell HR.out 4
    have zf4 := blk_frozen HR.out 4
    have z5 : w3.cell? ⟨W.heap.size, 5, none⟩ = some (.int .i64 0) := blk_cell HR.out 5
    have zf5 := blk_frozen HR.out 5
    go_wp2_with fail
    have hR2 := put6_blk HR.out a0 a1 a2 a3 a4 a5
    refine bodyPost_ret (results_cell_row rfl _ _ W.heap.size 25 (six a0 a1 a2 a3 a4 a5) (0, 0) _ rfl hR2 Tryd.underlying25 rfl (by kernel_rfl)) rfl ?_
    exact ⟨_, _, _, _, _, _, rfl, Step.put6 (Step.mono HS.out (by omega)) HG.out (Nat.le_refl _) _ _ _ _ _ _⟩
theorem start (A0 : Option Addr) (c0 : Nat) (cs : List Int) (w w1 : World) (hc : Kd.C (Kd.int .u8) w A0 cs.length cs) (hb : (∀ b ∈ cs, 0 ≤ b ∧ b < 256) ∧ cs.length ≤ 1048576) (h1 : Below w.heap.size w w1) : CB w (w1.alloc (.cells #[.slice A0 cs.length c0, .int .i64 0, .int .u64 0] 42)) w1.heap.size cs 0 :=
  ⟨⟨A0, c0, 0, 0, Nat.le_refl _, blk_new w1 _, hc⟩, h1.size, h1.alloc h1.size _, hb⟩
theorem put6_below {w0 w : World} {R : Nat} (h : Below w0.heap.size w0 w) (hR : w0.heap.size ≤ R) (a b c d e f : Int) : Below w0.heap.size w0 (put6 w R a b c d e f) :=
  Below.setCell (p := ⟨R, 5, none⟩) (Below.setCell (p := ⟨R, 4, none⟩) (Below.setCell (p := ⟨R, 3, none⟩) (Below.setCell (p := ⟨R, 2, none⟩) (Below.setCell (p := ⟨R, 1, none⟩) (Below.setCell (p := ⟨R, 0, none⟩) h hR _) hR _) hR _) hR _) hR _) hR _
set_option maxHeartbeats 4000000 in
set_option maxRecDepth 100000 in
theorem word_walk (A0 : Option Addr) (c0 : Nat) (cs : List Int) (w : World) (hc : Kd.C (Kd.int .u8) w A0 cs.length cs) (hby : (∀ b ∈ cs, 0 ≤ b ∧ b < 256) ∧ cs.length ≤ 1048576) : Calls Tryd.prog 5 #[.slice A0 cs.length c0] w fun e w' =>
    ∃ (a b c d x y : Int) (s : ByteArray), e = .returned (.tuple #[.agg (six a b c d x y), .string s]) ∧ s.size ≤ 1000 ∧ Below w.heap.size w w' := by
  have HS0 := Go.Lib.hid (start A0 c0 cs w (w.alloc (.cells Z6 25)) hc hby ((Below.refl _ w).alloc (Nat.le_refl _) _))
  have HZ := Go.Lib.hid (blk_alloc (blk_new w (.cells Z6 25)) (.cells #[.slice A0 cs.length c0, .int .i64 0, .int .u64 0] 42))
  rw [show (w.alloc (.cells Z6 25)).heap.size = w.heap.size + 1 from by simp] at HS0
  clear hc hby
  go_enter Tryd.func5, Tryd.ntmps5
  go_upto_region 2 with fail
  obtain ⟨g, hg⟩ : ∃ g, g = w.heap.size + 1 := ⟨_, rfl⟩
  have HG := Go.Lib.hid (show w.heap.size ≠ g from by omega)
  rw [← hg] at HS0 ⊢
  clear hg
  generalize World.alloc (World.alloc _ _) _ = w1 at HS0 HZ ⊢
  go_wp2_with fail
  refine (die_walk g cs 0 w w1 HS0.out (by decide)).mono ?_
  rintro e w2 ⟨a0, a1, a2, a3, a4, a5, rfl, hs⟩
  have HR := Go.Lib.hid (keep_blk hs.2 HZ.out HG.out)
  have HS := Go.Lib.hid hs
  clear hs HS0 HZ
  go_wp2_with fail
  refine (rolls_walk g cs 200 w w2 HS.out.1 (by decide)).mono ?_
  rintro e w3 ⟨s, rfl, hz, hs⟩
  have HZ := Go.Lib.hid hz
  have n_HR := Go.Lib.hid (keep_blk hs.2 HR.out HG.out)
  have n_HS := Go.Lib.hid (HS.out.trans hs)
  clear HR HS hz hs
  have HR := n_HR
  have HS := n_HS
  clear n_HR n_HS
  have z0 : w3.cell? ⟨w.heap.size, 0, none⟩ = some (.int .i64 0) := blk_cell HR.out 0
  have z1 : w3.cell? ⟨w.heap.size, 1, none⟩ = some (.int .i64 0) := blk_cell HR.out 1
  have z2 : w3.cell? ⟨w.heap.size, 2, none⟩ = some (.int .i64 0) := blk_cell HR.out 2
  have z3 : w3.cell? ⟨w.heap.size, 3, none⟩ = some (.int .i64 0) := blk_cell HR.out 3
  have z4 : w3.cell? ⟨w.heap.size, 4, none⟩ = some (.int .i64 0) := blk_cell HR.out 4
  have z5 : w3.cell? ⟨w.heap.size, 5, none⟩ = some (.int .i64 0) := blk_cell HR.out 5
  have zf0 := blk_frozen HR.out 0
  have zf1 := blk_frozen HR.out 1
  have zf2 := blk_frozen HR.out 2
  have zf3 := blk_frozen HR.out 3
  have zf4 := blk_frozen HR.out 4
  have zf5 := blk_frozen HR.out 5
  go_wp2_with fail
  have hR2 := put6_blk HR.out a0 a1 a2 a3 a4 a5
  refine bodyPost_ret (results_ct rfl _ _ w.heap.size 25 (six a0 a1 a2 a3 a4 a5) (0, 0) _ rfl hR2 Tryd.underlying25 rfl (by kernel_rfl)) rfl ?_
  exact ⟨a0, a1, a2, a3, a4, a5, s, rfl, by have h_ := HZ.out; omega, put6_below HS.out.1.bel (Nat.le_refl _) a0 a1 a2 a3 a4 a5⟩
set_option maxHeartbeats 4000000 in
set_option maxRecDepth 100000 in
theorem way_walk (A0 : Option Addr) (c0 : Nat) (cs : List Int) (w : World) (hc : Kd.C (Kd.int .u8) w A0 cs.length cs) (hby : (∀ b ∈ cs, 0 ≤ b ∧ b < 256) ∧ cs.length ≤ 1048576) : Calls Tryd.prog 13 #[.slice A0 cs.length c0] w fun e w' =>
    ∃ (a b c d x y : Int) (s : ByteArray), e = .returned (.tuple #[.agg (six a b c d x y), .string s]) ∧ s.size ≤ 1000 ∧ Below w.heap.size w w' := by
  have HS0 := Go.Lib.hid (start A0 c0 cs w (w.alloc (.cells Z6 25)) hc hby ((Below.refl _ w).alloc (Nat.le_refl _) _))
  have HZ := Go.Lib.hid (blk_alloc (blk_new w (.cells Z6 25)) (.cells #[.slice A0 cs.length c0, .int .i64 0, .int .u64 0] 42))
  rw [show (w.alloc (.cells Z6 25)).heap.size = w.heap.size + 1 from by simp] at HS0
  clear hc hby
  go_enter Tryd.func13, Tryd.ntmps13
  go_upto_region 2 with fail
  obtain ⟨g, hg⟩ : ∃ g, g = w.heap.size + 1 := ⟨_, rfl⟩
  have HG := Go.Lib.hid (show w.heap.size ≠ g from by omega)
  rw [← hg] at HS0 ⊢
  clear hg
  generalize World.alloc (World.alloc _ _) _ = w1 at HS0 HZ ⊢
  go_wp2_with fail
  refine (die_walk g cs 0 w w1 HS0.out (by decide)).mono ?_
  rintro e w2 ⟨a0, a1, a2, a3, a4, a5, rfl, hs⟩
  have HR := Go.Lib.hid (keep_blk hs.2 HZ.out HG.out)
  have HS := Go.Lib.hid hs
  clear hs HS0 HZ
  go_wp2_with fail
  refine (Cur.way_walk g cs 200 w w2 HS.out.1 (by decide)).mono ?_
  rintro e w3 ⟨s, rfl, hz, hs⟩
  have HZ := Go.Lib.hid hz
  have n_HR := Go.Lib.hid (keep_blk hs.2 HR.out HG.out)
  have n_HS := Go.Lib.hid (HS.out.trans hs)
  clear HR HS hz hs
  have HR := n_HR
  have HS := n_HS
  clear n_HR n_HS
  have z0 : w3.cell? ⟨w.heap.size, 0, none⟩ = some (.int .i64 0) := blk_cell HR.out 0
  have z1 : w3.cell? ⟨w.heap.size, 1, none⟩ = some (.int .i64 0) := blk_cell HR.out 1
  have z2 : w3.cell? ⟨w.heap.size, 2, none⟩ = some (.int .i64 0) := blk_cell HR.out 2
  have z3 : w3.cell? ⟨w.heap.size, 3, none⟩ = some (.int .i64 0) := blk_cell HR.out 3
  have z4 : w3.cell? ⟨w.heap.size, 4, none⟩ = some (.int .i64 0) := blk_cell HR.out 4
  have z5 : w3.cell? ⟨w.heap.size, 5, none⟩ = some (.int .i64 0) := blk_cell HR.out 5
  have zf0 := blk_frozen HR.out 0
  have zf1 := blk_frozen HR.out 1
  have zf2 := blk_frozen HR.out 2
  have zf3 := blk_frozen HR.out 3
  have zf4 := blk_frozen HR.out 4
  have zf5 := blk_frozen HR.out 5
  go_wp2_with fail
  have hR2 := put6_blk HR.out a0 a1 a2 a3 a4 a5
  refine bodyPost_ret (results_ct rfl _ _ w.heap.size 25 (six a0 a1 a2 a3 a4 a5) (0, 0) _ rfl hR2 Tryd.underlying25 rfl (by kernel_rfl)) rfl ?_
  exact ⟨a0, a1, a2, a3, a4, a5, s, rfl, by have h_ := HZ.out; omega, put6_below HS.out.1.bel (Nat.le_refl _) a0 a1 a2 a3 a4 a5⟩
set_option maxHeartbeats 4000000 in
set_option maxRecDepth 100000 in
theorem turn_walk (A0 : Option Addr) (c0 : Nat) (cs : List Int) (w : World) (hc : Kd.C (Kd.int .u8) w A0 cs.length cs) (hby : (∀ b ∈ cs, 0 ≤ b ∧ b < 256) ∧ cs.length ≤ 1048576) : Calls Tryd.prog 15 #[.slice A0 cs.length c0] w fun e w' =>
    ∃ (a b c d x y : Int) (s : Int), e = .returned (.tuple #[.agg (six a b c d x y), .int .i64 s]) ∧ Below w.heap.size w w' := by
  have HS0 := Go.Lib.hid (start A0 c0 cs w (w.alloc (.cells Z6 25)) hc hby ((Below.refl _ w).alloc (Nat.le_refl _) _))
  have HZ := Go.Lib.hid (blk_alloc (blk_new w (.cells Z6 25)) (.cells #[.slice A0 cs.length c0, .int .i64 0, .int .u64 0] 42))
  rw [show (w.alloc (.cells Z6 25)).heap.size = w.heap.size + 1 from by simp] at HS0
  clear hc hby
  go_enter Tryd.func15, Tryd.ntmps15
  go_upto_region 2 with fail
  obtain ⟨g, hg⟩ : ∃ g, g = w.heap.size + 1 := ⟨_, rfl⟩
  have HG := Go.Lib.hid (show w.heap.size ≠ g from by omega)
  rw [← hg] at HS0 ⊢
  clear hg
  generalize World.alloc (World.alloc _ _) _ = w1 at HS0 HZ ⊢
  go_wp2_with fail
  refine (die_walk g cs 0 w w1 HS0.out (by decide)).mono ?_
  rintro e w2 ⟨a0, a1, a2, a3, a4, a5, rfl, hs⟩
  have HR := Go.Lib.hid (keep_blk hs.2 HZ.out HG.out)
  have HS := Go.Lib.hid hs
  clear hs HS0 HZ
  go_wp2_with fail
  refine (pick_walk g cs 200 6 (by decide) w w2 HS.out.1 (by decide)).mono ?_
  rintro e w3 ⟨u, rfl, hu, hs⟩
  have n_HR := Go.Lib.hid (keep_blk hs.2 HR.out HG.out)
  have n_HS := Go.Lib.hid (HS.out.trans hs)
  clear HR HS hu hs
  go_wp2_with fail
  refine (pick_walk g cs 201 9 (by decide) w w3 n_HS.out.1 (by decide)).mono ?_
  rintro e w4 ⟨v, rfl, hv, hs⟩
  have HR := Go.Lib.hid (keep_blk hs.2 n_HR.out HG.out)
  have HS := Go.Lib.hid (n_HS.out.trans hs)
  clear n_HR n_HS hv hs
  have z0 : w4.cell? ⟨w.heap.size, 0, none⟩ = some (.int .i64 0) := blk_cell HR.out 0
  have z1 : w4.cell? ⟨w.heap.size, 1, none⟩ = some (.int .i64 0) := blk_cell HR.out 1
  have z2 : w4.cell? ⟨w.heap.size, 2, none⟩ = some (.int .i64 0) := blk_cell HR.out 2
  have z3 : w4.cell? ⟨w.heap.size, 3, none⟩ = some (.int .i64 0) := blk_cell HR.out 3
  have z4 : w4.cell? ⟨w.heap.size, 4, none⟩ = some (.int .i64 0) := blk_cell HR.out 4
  have z5 : w4.cell? ⟨w.heap.size, 5, none⟩ = some (.int .i64 0) := blk_cell HR.out 5
  have zf0 := blk_frozen HR.out 0
  have zf1 := blk_frozen HR.out 1
  have zf2 := blk_frozen HR.out 2
  have zf3 := blk_frozen HR.out 3
  have zf4 := blk_frozen HR.out 4
  have zf5 := blk_frozen HR.out 5
  go_wp2_with fail
  have hR2 := put6_blk HR.out a0 a1 a2 a3 a4 a5
  refine bodyPost_ret (results_ct rfl _ _ w.heap.size 25 (six a0 a1 a2 a3 a4 a5) (0, 0) _ rfl hR2 Tryd.underlying25 rfl (by kernel_rfl)) rfl ?_
  exact ⟨a0, a1, a2, a3, a4, a5, _, rfl, put6_below HS.out.1.bel (Nat.le_refl _) a0 a1 a2 a3 a4 a5⟩
end Go.Proofs.YtfcifidjjbknaaaDoor.Draw
