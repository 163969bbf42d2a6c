/- The call that rolls a state over labels: what its callees come to, put together. Conditions: none. -/
import Derived.Test.YtolopkjpodnmkaaDoorFloor
import Derived.Test.YtolopkjpodnmkaaDoorGridRoll
import Derived.Test.YtolopkjpodnmkaaDoorWOne
import Derived.Deep.CutBlock
import Derived.Deep.RegionHeld3
import Derived.Deep.RegionWith
import Derived.Deep.DeepCutAuto
namespace Go.Proofs.YtolopkjpodnmkaaDoor.Over
open Go.RowKit Go.Proofs.YtolopkjpodnmkaaDoorW.PrintWords Go.Proofs.YtolopkjpodnmkaaDoorW.PrintLast Go.Proofs.YtolopkjpodnmkaaDoor.GridRoll
set_option linter.unusedVariables false
set_option linter.unusedSimpArgs false

abbrev c8 (x y t n e s u b : Int) : Array Value := #[.int .i64 x, .int .i64 y, .int .i64 t, .int .i64 n, .int .i64 e, .int .i64 s, .int .i64 u, .int .i64 b]
def over.T1 : Bool × List (List Nat × List Nat) := (true, [([], []), ([0], [0]), ([], []), ([], []), ([1, 2, 3, 1], [1, 2, 3]), ([4], [4]), ([5], [5]), ([5], [5]), ([], []), ([8, 6, 4, 0, 1, 2, 3, 4, 5, 6, 8], [6, 8]), ([7, 9, 0, 1, 2, 3, 4, 5, 6, 7, 8, 9], [7])])
def over.B1 : List Nat := [0, 1, 0, 0, 15, 31, 63, 63, 0, 383, 1023]
theorem over.tab1 : rtab .any (opsOf Tryd.f30 1) = over.T1 := by kernel_rfl
theorem over.bits1 : waitsOk over.T1.2 over.B1 = true := by kernel_rfl
def over.T2 : Bool × List (List Nat × List Nat) := (true, [([], []), ([], []), ([1], [1]), ([2], [2]), ([2], [2]), ([3, 4, 2, 2], [2, 3, 4]), ([2, 5], [2, 5]), ([6, 5], [6]), ([7], [7]), ([7], [7]), ([8, 9, 7, 7], [7, 8, 9]), ([7, 10], [7, 10]), ([0, 10, 0], [0]), ([11, 12, 0, 1, 2, 3, 4, 5, 6, 7, 8, 9, 10, 11, 12], [11])])
def over.B2 : List Nat := [0, 0, 2, 6, 6, 30, 62, 126, 254, 254, 1022, 2046, 2047, 8191]
theorem over.tab2 : rtab .any (opsOf Tryd.f30 2) = over.T2 := by kernel_rfl
theorem over.bits2 : waitsOk over.T2.2 over.B2 = true := by kernel_rfl
set_option maxHeartbeats 4000000 in
set_option maxRecDepth 100000 in
theorem over_walk (A0 : Option Addr) (c0 : Nat) (l0 fl : List ByteArray) (x y d0 d1 d2 d3 d4 d5 a2 r1 r2 r3 r4 r5 r6 r7 r8 : Int) (q m1 m2 : Bool) (w : World) (hr0 : Kd.C Kd.string w A0 l0.length l0) (hc0 : l0.length ≤ c0)
    (h1 : Floor.says l0 = some fl) (h2 : GridRoll.says fl x y d0 d1 d2 d3 d4 d5 a2 = some (r1, r2, r3, r4, r5, r6, r7, r8, q)) (h3 : q = true → QBo.impl_grid_matches.f l0 x y d0 d1 d2 d3 d4 d5 = some m1) (h4 : q = true → m1 = true → QBo.impl_grid_matches.f l0 r1 r2 r3 r4 r5 r6 r7 r8 = some m2) :
    Calls Tryd.prog 30 #[.slice A0 l0.length c0, .agg (c8 x y d0 d1 d2 d3 d4 d5), .int .u8 a2] w fun e w' => e = .returned (.tuple #[.agg (c8 r1 r2 r3 r4 r5 r6 r7 r8), .bool (q && (m1 && m2))]) ∧ Below w.heap.size w w' := by
  have H1 := Go.Lib.hid h1
  have H2 := Go.Lib.hid h2
  have H3 := Go.Lib.hid h3
  have H4 := Go.Lib.hid h4
  have HR := Go.Lib.hid hr0
  have HC := Go.Lib.hid hc0
  clear h1 h2 h3 h4 hr0 hc0
  go_enter Tryd.func30, Tryd.ntmps30
  go_upto_region 1 with fail
  have hb0 : Below w.heap.size w ((w.alloc (.cells (c8 x y d0 d1 d2 d3 d4 d5) 30)).alloc (.cells (c8 0 0 0 0 0 0 0 0) 30)).drew := below_drew (below_alloc (below_alloc (Below.refl _ _) _) _)
  have HB := Go.Lib.hid hb0
  have b0 : ((w.alloc (.cells (c8 x y d0 d1 d2 d3 d4 d5) 30)).alloc (.cells (c8 0 0 0 0 0 0 0 0) 30)).drew.heap[w.heap.size]? = some (.cells (c8 x y d0 d1 d2 d3 d4 d5) 30 (0, 0)) := blk_drew (blk_alloc (blk_new _ _) _)
  have B0 := Go.Lib.hid b0
  have y0 : ((w.alloc (.cells (c8 x y d0 d1 d2 d3 d4 d5) 30)).alloc (.cells (c8 0 0 0 0 0 0 0 0) 30)).drew.heap[w.heap.size + 1]? = some (.cells (c8 0 0 0 0 0 0 0 0) 30 (0, 0)) := by
    have h := blk_drew (blk_new (w.alloc (.cells (c8 x y d0 d1 d2 d3 d4 d5) 30)) (.cells (c8 0 0 0 0 0 0 0 0) 30))
    simpa using h
  have Y0 := Go.Lib.hid y0
  clear hb0 b0 y0
  refine start_ (n := 11) (S := fun w' => True) (ds := []) #[false, false, false, false, false, false, false, false, false, false, false] (by kernel_rfl) rfl rfl trivial (fun hHeld => ?_)
  refine with_tabW over.tab1 over.bits1 (fun HT_ HW_ => ?_)
  generalize World.drew _ = w15 at HB B0 Y0 hHeld ⊢
  refine pure_ (i := 0) (N := some 11) (v := ?_) (a' := ?_) #[true, false, false, false, false, false, false, false, false, false, false] rfl rfl (any_of HT_.out (by kernel_rfl)) (fun _ _ _ h => h) (Or.inl ⟨by rfl, ?_⟩) ?_ ?_
  rotate_left
  · intro w'
    go_simp
    with_reducible rfl
  rotate_left
  · simp only [Act.put, List.setIfInBounds_toArray, List.set_cons_zero, List.set_cons_succ, i64_w, i32_w]
    rfl
  refine pure_ (i := 3) (N := some 14) (v := ?_) (a' := ?_) #[true, false, false, true, false, false, false, false, false, false, false] rfl rfl (any_of HT_.out (by kernel_rfl)) (fun _ _ _ h => h) (Or.inl ⟨by rfl, ?_⟩) ?_ ?_
  rotate_left
  · intro w'
    go_simp
    with_reducible rfl
  rotate_left
  · simp only [Act.put, List.setIfInBounds_toArray, List.set_cons_zero, List.set_cons_succ, i64_w, i32_w]
    rfl
  refine inv_at [1, 2, 4, 5, 6, 7, 8, 9, 10] (fun a0_ b a w' => ∃ (v12_ : Value) (g8_ : Nat) (m8_ : Value), a = putSel a0_ b [(1, 12, v12_), (2, 13, .agg #[.int .i64 x, .int .i64 y, .int .i64 d0, .int .i64 d1, .int .i64 d2, .int .i64 d3, .int .i64 d4, .int .i64 d5]), (4, 15, .tuple #[.agg #[.int .i64 r1, .int .i64 r2, .int .i64 r3, .int .i64 r4, .int .i64 r5, .int .i64 r6, .int .i64 r7, .int .i64 r8], .bool q]), (5, 10, .tuple #[.agg #[.int .i64 r1, .int .i64 r2, .int .i64 r3, .int .i64 r4, .int .i64 r5, .int .i64 r6, .int .i64 r7, .int .i64 r8], .bool q]), (6, 16, .agg #[.int .i64 r1, .int .i64 r2, .int .i64 r3, .int .i64 r4, .int .i64 r5, .int .i64 r6, .int .i64 r7, .int .i64 r8]), (7, 17, .bool q), (8, 8, m8_), (10, 9, .bool q)] ∧ (Below w.heap.size w w') ∧ (w'.heap[w.heap.size]? = some (.cells (c8 x y d0 d1 d2 d3 d4 d5) 30 (0, 0))) ∧ (w'.heap[w.heap.size + 1]? = some (.cells (c8 0 0 0 0 0 0 0 0) 30 (0, 0))) ∧ (b 1 = true → b 4 = false → ∃ A c, v12_ = .slice A fl.length c ∧ fl.length ≤ c ∧ Kd.C Kd.string w' A fl.length fl) ∧ (b 8 = true → b 9 = false → w'.heap[g8_]? = some (.cells (c8 0 0 0 0 0 0 0 0) 30 (0, 0)) ∧ w.heap.size + 1 < g8_) ∧ (b 9 = true → w'.heap[g8_]? = some (.cells (c8 r1 r2 r3 r4 r5 r6 r7 r8) 30 (0, 0)) ∧ w.heap.size + 1 < g8_) ∧ (b 8 = true → (m8_ : Value) = .pointer (some ⟨g8_, 0, none⟩))) HT_.out HW_.out (by kernel_rfl) (by kernel_rfl) ?_ ?_ ?_
  · exact ⟨.bool false, 0, .bool false, by simp only [putSel, Bool.false_eq_true, if_false], HB.out, B0.out, Y0.out, fun h_ => absurd h_ (by decide), fun h_ => absurd h_ (by decide), fun h_ => absurd h_ (by decide), fun h_ => absurd h_ (by decide)⟩
  · skip
    clear B0 HB Y0
    refine steps_cons ?_ ?_
    · rintro b a w' ⟨v12_, g8_, m8_, ha, Q_HB, Q_B0, Q_Y0, Q_F1, Q_Z0, Q_Z1, Q_X8_⟩ hb_ hon hoff
      refine ⟨_, rfl, fun K hK => ?_⟩
      have e11 : a.tmps[11]? = some (.slice A0 l0.length c0) := by rw [ha]; exact (putSel_off rfl).trans rfl
      replace ha := Aside0.mk ha
      have HB := Aside0.mk Q_HB
      have B0 := Aside0.mk Q_B0
      have Y0 := Aside0.mk Q_Y0
      refine goes_ Tryd.func26 (by kernel_rfl) rfl #[.slice A0 l0.length c0] (by rfl) rfl rfl (by first | (simp only [List.map_toArray, List.map_cons, List.map_nil, Act.eval, Array.getD_eq_getD_getElem?, Option.getD_some, e11]; done) | (simp only [List.map_toArray, List.map_cons, List.map_nil, Act.eval, Array.getD_eq_getD_getElem?, Option.getD_some, e11]; rfl)) ?_
      with_reducible refine (Floor.says_calls A0 c0 l0 fl _ (Kd.C_below HR.out HB.out) HC.out H1.out).mono ?_
      rintro e' w1 ⟨v0, rfl, hR, hb⟩
      refine ⟨_, rfl, ?_⟩
      obtain ⟨A, c, hv, hlc, hC⟩ := Kd.R_reads hR
      refine hK.out _ _ ⟨v0, g8_, m8_, (by rw [ha.out]; exact putSel_upk 0 hb_ rfl rfl rfl), below_then HB.out HB.out.size hb, blk_below B0.out hb, blk_below Y0.out hb, fun _ _ => ⟨A, c, hv, hlc, hC⟩, fun h0_ h1_ => ⟨blk_below (Q_Z0 h0_ h1_).1 hb, (Q_Z0 h0_ h1_).2⟩, fun h0_ => absurd ((hoff 9 (by kernel_rfl)).symm.trans h0_) (by decide), Q_X8_⟩
    refine steps_cons ?_ ?_
    · rintro b a w' ⟨v12_, g8_, m8_, ha, Q_HB, Q_B0, Q_Y0, Q_F1, Q_Z0, Q_Z1, Q_X8_⟩ hb_ hon hoff
      refine ⟨_, rfl, fun K hK => ?_⟩
      have e4 : a.tmps[4]? = some (.pointer (some ⟨w.heap.size, 0, none⟩)) := by rw [ha]; exact (putSel_off rfl).trans rfl
      replace ha := Aside0.mk ha
      have HB := Aside0.mk Q_HB
      have B0 := Aside0.mk Q_B0
      have Y0 := Aside0.mk Q_Y0
      have k0 : w'.cell? ⟨w.heap.size, 0, none⟩ = some (.int .i64 x) := blk_cell B0.out 0
      have k1 : w'.cell? ⟨w.heap.size, 1, none⟩ = some (.int .i64 y) := blk_cell B0.out 1
      have k2 : w'.cell? ⟨w.heap.size, 2, none⟩ = some (.int .i64 d0) := blk_cell B0.out 2
      have k3 : w'.cell? ⟨w.heap.size, 3, none⟩ = some (.int .i64 d1) := blk_cell B0.out 3
      have k4 : w'.cell? ⟨w.heap.size, 4, none⟩ = some (.int .i64 d2) := blk_cell B0.out 4
      have k5 : w'.cell? ⟨w.heap.size, 5, none⟩ = some (.int .i64 d3) := blk_cell B0.out 5
      have k6 : w'.cell? ⟨w.heap.size, 6, none⟩ = some (.int .i64 d4) := blk_cell B0.out 6
      have k7 : w'.cell? ⟨w.heap.size, 7, none⟩ = some (.int .i64 d5) := blk_cell B0.out 7
      refine value_ (w1 := w') (v := .agg #[.int .i64 x, .int .i64 y, .int .i64 d0, .int .i64 d1, .int .i64 d2, .int .i64 d3, .int .i64 d4, .int .i64 d5]) (by rfl) rfl ?_ ?_
      · go_simp
        (try simp only [i64_w])
        try rfl
      refine hK.out _ _ ⟨v12_, g8_, m8_, (by rw [ha.out]; exact putSel_upk 1 hb_ rfl rfl rfl), Q_HB, Q_B0, Q_Y0, Q_F1, Q_Z0, fun h0_ => absurd ((hoff 9 (by kernel_rfl)).symm.trans h0_) (by decide), Q_X8_⟩
    refine steps_cons ?_ ?_
    · rintro b a w' ⟨v12_, g8_, m8_, ha, Q_HB, Q_B0, Q_Y0, Q_F1, Q_Z0, Q_Z1, Q_X8_⟩ hb_ hon hoff
      refine ⟨_, rfl, fun K hK => ?_⟩
      have e12 : a.tmps[12]? = some (v12_) := by rw [ha]; exact putSel_on (e := (1, 12, v12_)) 0 rfl rfl (hon 1 (by kernel_rfl)) rfl
      have e13 : a.tmps[13]? = some (.agg #[.int .i64 x, .int .i64 y, .int .i64 d0, .int .i64 d1, .int .i64 d2, .int .i64 d3, .int .i64 d4, .int .i64 d5]) := by rw [ha]; exact putSel_on (e := (2, 13, .agg #[.int .i64 x, .int .i64 y, .int .i64 d0, .int .i64 d1, .int .i64 d2, .int .i64 d3, .int .i64 d4, .int .i64 d5])) 1 rfl rfl (hon 2 (by kernel_rfl)) rfl
      have e14 : a.tmps[14]? = some (.int .u8 a2) := by rw [ha]; exact (putSel_off rfl).trans rfl
      replace ha := Aside0.mk ha
      have HB := Aside0.mk Q_HB
      have B0 := Aside0.mk Q_B0
      have Y0 := Aside0.mk Q_Y0
      have F1 := Aside0.mk (Q_F1 (hon 1 (by kernel_rfl)) hb_)
      obtain ⟨A, c, hv, hlc, hC⟩ := F1.out
      rw [hv] at e12
      refine goes_ Tryd.func39 (by kernel_rfl) rfl #[.slice A fl.length c, .agg #[.int .i64 x, .int .i64 y, .int .i64 d0, .int .i64 d1, .int .i64 d2, .int .i64 d3, .int .i64 d4, .int .i64 d5], .int .u8 a2] (by rfl) rfl rfl (by first | (simp only [List.map_toArray, List.map_cons, List.map_nil, Act.eval, Array.getD_eq_getD_getElem?, Option.getD_some, e12, e13, e14]; done) | (simp only [List.map_toArray, List.map_cons, List.map_nil, Act.eval, Array.getD_eq_getD_getElem?, Option.getD_some, e12, e13, e14]; rfl)) ?_
      with_reducible refine (GridRoll.says_calls A c fl x y d0 d1 d2 d3 d4 d5 a2 r1 r2 r3 r4 r5 r6 r7 r8 q _ hC hlc H2.out).mono ?_
      rintro e' w1 ⟨rfl, hb⟩
      refine ⟨_, rfl, ?_⟩
      refine hK.out _ _ ⟨v12_, g8_, m8_, (by rw [ha.out]; exact putSel_upk 2 hb_ rfl rfl rfl), below_then HB.out HB.out.size hb, blk_below B0.out hb, blk_below Y0.out hb, fun _ h1_ => absurd ((up_self b 4).symm.trans h1_) (by decide), fun h0_ h1_ => ⟨blk_below (Q_Z0 h0_ h1_).1 hb, (Q_Z0 h0_ h1_).2⟩, fun h0_ => absurd ((hoff 9 (by kernel_rfl)).symm.trans h0_) (by decide), Q_X8_⟩
    refine steps_cons ?_ ?_
    · rintro b a w' ⟨v12_, g8_, m8_, ha, Q_HB, Q_B0, Q_Y0, Q_F1, Q_Z0, Q_Z1, Q_X8_⟩ hb_ hon hoff
      refine ⟨_, rfl, fun K hK => ?_⟩
      have e15 : a.tmps[15]? = some (.tuple #[.agg #[.int .i64 r1, .int .i64 r2, .int .i64 r3, .int .i64 r4, .int .i64 r5, .int .i64 r6, .int .i64 r7, .int .i64 r8], .bool q]) := by rw [ha]; exact putSel_on (e := (4, 15, .tuple #[.agg #[.int .i64 r1, .int .i64 r2, .int .i64 r3, .int .i64 r4, .int .i64 r5, .int .i64 r6, .int .i64 r7, .int .i64 r8], .bool q])) 2 rfl rfl (hon 4 (by kernel_rfl)) rfl
      replace ha := Aside0.mk ha
      have HB := Aside0.mk Q_HB
      have B0 := Aside0.mk Q_B0
      have Y0 := Aside0.mk Q_Y0
      refine value_ (w1 := w') (v := .tuple #[.agg #[.int .i64 r1, .int .i64 r2, .int .i64 r3, .int .i64 r4, .int .i64 r5, .int .i64 r6, .int .i64 r7, .int .i64 r8], .bool q]) (by rfl) rfl ?_ ?_
      · go_simp
        (try simp only [i64_w])
        try rfl
      refine hK.out _ _ ⟨v12_, g8_, m8_, (by rw [ha.out]; exact putSel_upk 3 hb_ rfl rfl rfl), Q_HB, Q_B0, Q_Y0, fun _ h1_ => absurd ((hon 4 (by kernel_rfl)).symm.trans h1_) (by decide), Q_Z0, fun h0_ => absurd ((hoff 9 (by kernel_rfl)).symm.trans h0_) (by decide), Q_X8_⟩
    refine steps_cons ?_ ?_
    · rintro b a w' ⟨v12_, g8_, m8_, ha, Q_HB, Q_B0, Q_Y0, Q_F1, Q_Z0, Q_Z1, Q_X8_⟩ hb_ hon hoff
      refine ⟨_, rfl, fun K hK => ?_⟩
      have e10 : a.tmps[10]? = some (.tuple #[.agg #[.int .i64 r1, .int .i64 r2, .int .i64 r3, .int .i64 r4, .int .i64 r5, .int .i64 r6, .int .i64 r7, .int .i64 r8], .bool q]) := by rw [ha]; exact putSel_on (e := (5, 10, .tuple #[.agg #[.int .i64 r1, .int .i64 r2, .int .i64 r3, .int .i64 r4, .int .i64 r5, .int .i64 r6, .int .i64 r7, .int .i64 r8], .bool q])) 3 rfl rfl (hon 5 (by kernel_rfl)) rfl
      replace ha := Aside0.mk ha
      have HB := Aside0.mk Q_HB
      have B0 := Aside0.mk Q_B0
      have Y0 := Aside0.mk Q_Y0
      refine value_ (w1 := w') (v := .agg #[.int .i64 r1, .int .i64 r2, .int .i64 r3, .int .i64 r4, .int .i64 r5, .int .i64 r6, .int .i64 r7, .int .i64 r8]) (by rfl) rfl ?_ ?_
      · go_simp
        (try simp only [i64_w])
        try rfl
      refine hK.out _ _ ⟨v12_, g8_, m8_, (by rw [ha.out]; exact putSel_upk 4 hb_ rfl rfl rfl), Q_HB, Q_B0, Q_Y0, fun _ h1_ => absurd ((hon 4 (by kernel_rfl)).symm.trans h1_) (by decide), Q_Z0, fun h0_ => absurd ((hoff 9 (by kernel_rfl)).symm.trans h0_) (by decide), Q_X8_⟩
    refine steps_cons ?_ ?_
    · rintro b a w' ⟨v12_, g8_, m8_, ha, Q_HB, Q_B0, Q_Y0, Q_F1, Q_Z0, Q_Z1, Q_X8_⟩ hb_ hon hoff
      refine ⟨_, rfl, fun K hK => ?_⟩
      have e10 : a.tmps[10]? = some (.tuple #[.agg #[.int .i64 r1, .int .i64 r2, .int .i64 r3, .int .i64 r4, .int .i64 r5, .int .i64 r6, .int .i64 r7, .int .i64 r8], .bool q]) := by rw [ha]; exact putSel_on (e := (5, 10, .tuple #[.agg #[.int .i64 r1, .int .i64 r2, .int .i64 r3, .int .i64 r4, .int .i64 r5, .int .i64 r6, .int .i64 r7, .int .i64 r8], .bool q])) 3 rfl rfl (hon 5 (by kernel_rfl)) rfl
      replace ha := Aside0.mk ha
      have HB := Aside0.mk Q_HB
      have B0 := Aside0.mk Q_B0
      have Y0 := Aside0.mk Q_Y0
      refine value_ (w1 := w') (v := .bool q) (by rfl) rfl ?_ ?_
      · go_simp
        (try simp only [i64_w])
        try rfl
      refine hK.out _ _ ⟨v12_, g8_, m8_, (by rw [ha.out]; exact putSel_upk 5 hb_ rfl rfl rfl), Q_HB, Q_B0, Q_Y0, fun _ h1_ => absurd ((hon 4 (by kernel_rfl)).symm.trans h1_) (by decide), Q_Z0, Q_Z1, Q_X8_⟩
    refine steps_cons ?_ ?_
    · rintro b a w' ⟨v12_, g8_, m8_, ha, Q_HB, Q_B0, Q_Y0, Q_F1, Q_Z0, Q_Z1, Q_X8_⟩ hb_ hon hoff
      refine ⟨_, rfl, fun K hK => ?_⟩
      replace ha := Aside0.mk ha
      have HB := Aside0.mk Q_HB
      have B0 := Aside0.mk Q_B0
      have Y0 := Aside0.mk Q_Y0
      refine value_ (w1 := ?_) (v := ?_) (by rfl) rfl ?_ ?_
      rotate_left 2
      · go_simp
        constructor
        · rfl
        · rfl
      refine hK.out _ _ ⟨v12_, w'.heap.size, (.pointer (some ⟨w'.heap.size, 0, none⟩)), (by rw [ha.out]; exact putSel_upk 6 hb_ rfl rfl rfl), below_alloc HB.out _, blk_alloc B0.out _, blk_alloc Y0.out _, fun h0_ h1_ => (Q_F1 h0_ h1_).elim fun A h => h.elim fun c h => ⟨A, c, h.1, h.2.1, Kd.C_alloc h.2.2 _⟩, fun _ _ => ⟨blk_new _ _, blk_lt Y0.out⟩, fun h0_ => absurd ((hoff 9 (by kernel_rfl)).symm.trans h0_) (by decide), fun _ => rfl⟩
    refine steps_cons ?_ ?_
    · rintro b a w' ⟨v12_, g8_, m8_, ha, Q_HB, Q_B0, Q_Y0, Q_F1, Q_Z0, Q_Z1, Q_X8_⟩ hb_ hon hoff
      refine ⟨_, rfl, fun K hK => ?_⟩
      have e8 : a.tmps[8]? = some (m8_) := by rw [ha]; exact putSel_on (e := (8, 8, m8_)) 6 rfl rfl (hon 8 (by kernel_rfl)) rfl
      rw [Q_X8_ (hon 8 (by kernel_rfl))] at e8
      have e16 : a.tmps[16]? = some (.agg #[.int .i64 r1, .int .i64 r2, .int .i64 r3, .int .i64 r4, .int .i64 r5, .int .i64 r6, .int .i64 r7, .int .i64 r8]) := by rw [ha]; exact putSel_on (e := (6, 16, .agg #[.int .i64 r1, .int .i64 r2, .int .i64 r3, .int .i64 r4, .int .i64 r5, .int .i64 r6, .int .i64 r7, .int .i64 r8])) 4 rfl rfl (hon 6 (by kernel_rfl)) rfl
      replace ha := Aside0.mk ha
      have HB := Aside0.mk Q_HB
      have B0 := Aside0.mk Q_B0
      have Y0 := Aside0.mk Q_Y0
      have Z0 := Aside0.mk (Q_Z0 (hon 8 (by kernel_rfl)) hb_)
      have z0 : w'.cell? ⟨g8_, 0, none⟩ = some (.int .i64 0) := blk_cell Z0.out.1 0
      have z1 : w'.cell? ⟨g8_, 1, none⟩ = some (.int .i64 0) := blk_cell Z0.out.1 1
      have z2 : w'.cell? ⟨g8_, 2, none⟩ = some (.int .i64 0) := blk_cell Z0.out.1 2
      have z3 : w'.cell? ⟨g8_, 3, none⟩ = some (.int .i64 0) := blk_cell Z0.out.1 3
      have z4 : w'.cell? ⟨g8_, 4, none⟩ = some (.int .i64 0) := blk_cell Z0.out.1 4
      have z5 : w'.cell? ⟨g8_, 5, none⟩ = some (.int .i64 0) := blk_cell Z0.out.1 5
      have z6 : w'.cell? ⟨g8_, 6, none⟩ = some (.int .i64 0) := blk_cell Z0.out.1 6
      have z7 : w'.cell? ⟨g8_, 7, none⟩ = some (.int .i64 0) := blk_cell Z0.out.1 7
      have zf0 := blk_frozen Z0.out.1 0
      have zf1 := blk_frozen Z0.out.1 1
      have zf2 := blk_frozen Z0.out.1 2
      have zf3 := blk_frozen Z0.out.1 3
      have zf4 := blk_frozen Z0.out.1 4
      have zf5 := blk_frozen Z0.out.1 5
      have zf6 := blk_frozen Z0.out.1 6
      have zf7 := blk_frozen Z0.out.1 7
      have hg8 := Z0.out.2
      have hn0 : w.heap.size ≠ g8_ := by omega
      have hn1 : w.heap.size + 1 ≠ g8_ := by omega
      refine skip_ (w1 := ?_) (by rfl) rfl ?_ ?_
      rotate_left
      · go_simp
        rfl
      refine hK.out _ _ ⟨v12_, g8_, m8_, (by rw [ha.out]; exact putSel_none (v := undef) rfl), (below_set (below_set (below_set (below_set (below_set (below_set (below_set (below_set HB.out (by omega)) (by omega)) (by omega)) (by omega)) (by omega)) (by omega)) (by omega)) (by omega)), (blk_far (blk_far (blk_far (blk_far (blk_far (blk_far (blk_far (blk_far B0.out hn0 _) hn0 _) hn0 _) hn0 _) hn0 _) hn0 _) hn0 _) hn0 _), (blk_far (blk_far (blk_far (blk_far (blk_far (blk_far (blk_far (blk_far Y0.out hn1 _) hn1 _) hn1 _) hn1 _) hn1 _) hn1 _) hn1 _) hn1 _), fun _ h1_ => absurd ((hon 4 (by kernel_rfl)).symm.trans h1_) (by decide), fun _ h1_ => absurd ((up_self b 9).symm.trans h1_) (by decide), fun _ => ⟨(blk_put (cs := c8 r1 r2 r3 r4 r5 r6 r7 0) (blk_put (cs := c8 r1 r2 r3 r4 r5 r6 0 0) (blk_put (cs := c8 r1 r2 r3 r4 r5 0 0 0) (blk_put (cs := c8 r1 r2 r3 r4 0 0 0 0) (blk_put (cs := c8 r1 r2 r3 0 0 0 0 0) (blk_put (cs := c8 r1 r2 0 0 0 0 0 0) (blk_put (cs := c8 r1 0 0 0 0 0 0 0) (blk_put (cs := c8 0 0 0 0 0 0 0 0) Z0.out.1 0 _ rfl) 1 _ rfl) 2 _ rfl) 3 _ rfl) 4 _ rfl) 5 _ rfl) 6 _ rfl) 7 _ rfl), hg8⟩, Q_X8_⟩
    refine steps_cons ?_ ?_
    · rintro b a w' ⟨v12_, g8_, m8_, ha, Q_HB, Q_B0, Q_Y0, Q_F1, Q_Z0, Q_Z1, Q_X8_⟩ hb_ hon hoff
      refine ⟨_, rfl, fun K hK => ?_⟩
      have e17 : a.tmps[17]? = some (.bool q) := by rw [ha]; exact putSel_on (e := (7, 17, .bool q)) 5 rfl rfl (hon 7 (by kernel_rfl)) rfl
      replace ha := Aside0.mk ha
      have HB := Aside0.mk Q_HB
      have B0 := Aside0.mk Q_B0
      have Y0 := Aside0.mk Q_Y0
      have Z1 := Aside0.mk (Q_Z1 (hon 9 (by kernel_rfl)))
      refine value_ (w1 := w') (v := .bool q) (by rfl) rfl ?_ ?_
      · go_simp
        (try simp only [i64_w])
        try rfl
      refine hK.out _ _ ⟨v12_, g8_, m8_, (by rw [ha.out]; exact putSel_upk 7 hb_ rfl rfl rfl), Q_HB, Q_B0, Q_Y0, fun _ h1_ => absurd ((hon 4 (by kernel_rfl)).symm.trans h1_) (by decide), fun _ h1_ => absurd ((hon 9 (by kernel_rfl)).symm.trans h1_) (by decide), Q_Z1, Q_X8_⟩
    exact steps_nil
  · rintro b a w' hall ⟨v12_, g8_, m8_, ha, Q_HB, Q_B0, Q_Y0, Q_F1, Q_Z0, Q_Z1, Q_X8_⟩
    clear B0 HB Y0
    have hb1_ := hall 1 (by kernel_rfl)
    have hb2_ := hall 2 (by kernel_rfl)
    have hb4_ := hall 4 (by kernel_rfl)
    have hb5_ := hall 5 (by kernel_rfl)
    have hb6_ := hall 6 (by kernel_rfl)
    have hb7_ := hall 7 (by kernel_rfl)
    have hb8_ := hall 8 (by kernel_rfl)
    have hb9_ := hall 9 (by kernel_rfl)
    have hb10_ := hall 10 (by kernel_rfl)
    subst ha
    obtain rfl := Q_X8_ hb8_
    simp only [putSel, hb1_, hb2_, hb4_, hb5_, hb6_, hb7_, hb8_, hb9_, hb10_, if_true, Act.put, List.setIfInBounds_toArray, List.set_cons_zero, List.set_cons_succ]
    have HB := Aside0.mk Q_HB
    clear Q_HB
    have B0 := Aside0.mk Q_B0
    clear Q_B0
    have Y0 := Aside0.mk Q_Y0
    clear Q_Y0
    clear Q_F1
    clear Q_Z0
    have Z1 := Aside0.mk (Q_Z1 hb9_)
    clear Q_Z1
    clear hall hb1_ hb2_ hb4_ hb5_ hb6_ hb7_ hb8_ hb9_ hb10_
    cases q with
    | false =>
      go_upto_region 2 with fail
      refine start_ (n := 14) (S := fun w' => True) (ds := []) #[false, false, false, false, false, false, false, false, false, false, false, false, false, false] (by kernel_rfl) rfl rfl trivial (fun hHeld => ?_)
      refine with_tabW over.tab2 over.bits2 (fun HT_ HW_ => ?_)
      have n0_ := Go.Lib.hid (below_drew HB.out)
      have n1_ := Go.Lib.hid (blk_drew B0.out)
      have n2_ := Go.Lib.hid (blk_drew Y0.out)
      have n3_ := Go.Lib.hid (And.intro (blk_drew Z1.out.1) Z1.out.2)
      clear HB B0 Y0 Z1
      have HB := n0_
      have B0 := n1_
      have Y0 := n2_
      have Z1 := n3_
      clear n0_ n1_ n2_ n3_
      generalize World.drew _ = w25 at HB B0 Y0 Z1 hHeld ⊢
      refine pure_ (i := 1) (N := some 19) (v := ?_) (a' := ?_) #[false, true, false, false, false, false, false, false, false, false, false, false, false, false] rfl rfl (any_of HT_.out (by kernel_rfl)) (fun _ _ _ h => h) (Or.inl ⟨by rfl, ?_⟩) ?_ ?_
      rotate_left
      · intro w'
        go_simp
        with_reducible rfl
      rotate_left
      · simp only [Act.put, List.setIfInBounds_toArray, List.set_cons_zero, List.set_cons_succ, i64_w, i32_w]
        rfl
      refine pure_ (i := 2) (N := some 20) (v := ?_) (a' := ?_) #[false, true, true, false, false, false, false, false, false, false, false, false, false, false] rfl rfl (any_of HT_.out (by kernel_rfl)) (fun _ _ _ h => h) (Or.inl ⟨by rfl, ?_⟩) ?_ ?_
      rotate_left
      · intro w'
        go_simp
        with_reducible rfl
      rotate_left
      · simp only [Act.put, List.setIfInBounds_toArray, List.set_cons_zero, List.set_cons_succ, i64_w, i32_w]
        rfl
      refine inv_at [0, 3, 4, 5, 6, 7, 8, 9, 10, 11, 12, 13] (fun a0_ b a w' => a = putSel a0_ b [(0, 18, .agg #[.int .i64 r1, .int .i64 r2, .int .i64 r3, .int .i64 r4, .int .i64 r5, .int .i64 r6, .int .i64 r7, .int .i64 r8]), (3, 21, undef), (4, 22, undef), (5, 23, undef), (6, 24, .bool false), (7, 25, .bool false), (8, 26, undef), (9, 27, undef), (10, 28, undef), (11, 29, .bool false), (13, 7, .bool false)] ∧ (Below w.heap.size w w') ∧ (w'.heap[w.heap.size]? = some (.cells (c8 x y d0 d1 d2 d3 d4 d5) 30 (0, 0))) ∧ (b 12 = false → w'.heap[w.heap.size + 1]? = some (.cells (c8 0 0 0 0 0 0 0 0) 30 (0, 0))) ∧ (b 12 = true → w'.heap[w.heap.size + 1]? = some (.cells (c8 r1 r2 r3 r4 r5 r6 r7 r8) 30 (0, 0))) ∧ (w'.heap[g8_]? = some (.cells (c8 r1 r2 r3 r4 r5 r6 r7 r8) 30 (0, 0)) ∧ w.heap.size + 1 < g8_)) HT_.out HW_.out (by kernel_rfl) (by kernel_rfl) ?_ ?_ ?_
      · exact ⟨by simp only [putSel, Bool.false_eq_true, if_false], HB.out, B0.out, fun _ => Y0.out, fun h_ => absurd h_ (by decide), Z1.out⟩
      · skip
        clear B0 HB Y0 Z1
        refine steps_cons ?_ ?_
        · rintro b a w' ⟨ha, Q_HB, Q_B0, Q_Y0, Q_Y1, Q_Z1⟩ hb_ hon hoff
          refine ⟨_, rfl, fun K hK => ?_⟩
          have e8 : a.tmps[8]? = some (.pointer (some ⟨g8_, 0, none⟩)) := by rw [ha]; exact (putSel_off rfl).trans rfl
          replace ha := Aside0.mk ha
          have HB := Aside0.mk Q_HB
          have B0 := Aside0.mk Q_B0
          have Y0 := Aside0.mk (Q_Y0 (hoff 12 (by kernel_rfl)))
          have Z1 := Aside0.mk Q_Z1
          have z0 : w'.cell? ⟨g8_, 0, none⟩ = some (.int .i64 r1) := blk_cell Z1.out.1 0
          have z1 : w'.cell? ⟨g8_, 1, none⟩ = some (.int .i64 r2) := blk_cell Z1.out.1 1
          have z2 : w'.cell? ⟨g8_, 2, none⟩ = some (.int .i64 r3) := blk_cell Z1.out.1 2
          have z3 : w'.cell? ⟨g8_, 3, none⟩ = some (.int .i64 r4) := blk_cell Z1.out.1 3
          have z4 : w'.cell? ⟨g8_, 4, none⟩ = some (.int .i64 r5) := blk_cell Z1.out.1 4
          have z5 : w'.cell? ⟨g8_, 5, none⟩ = some (.int .i64 r6) := blk_cell Z1.out.1 5
          have z6 : w'.cell? ⟨g8_, 6, none⟩ = some (.int .i64 r7) := blk_cell Z1.out.1 6
          have z7 : w'.cell? ⟨g8_, 7, none⟩ = some (.int .i64 r8) := blk_cell Z1.out.1 7
          refine value_ (w1 := w') (v := .agg #[.int .i64 r1, .int .i64 r2, .int .i64 r3, .int .i64 r4, .int .i64 r5, .int .i64 r6, .int .i64 r7, .int .i64 r8]) (by rfl) rfl ?_ ?_
          · go_simp
            (try simp only [i64_w])
            try rfl
          refine hK.out _ _ ⟨(by rw [ha.out]; exact putSel_upk 0 hb_ rfl rfl rfl), Q_HB, Q_B0, Q_Y0, fun h0_ => absurd ((hoff 12 (by kernel_rfl)).symm.trans h0_) (by decide), Q_Z1⟩
        refine steps_cons ?_ ?_
        · rintro b a w' ⟨ha, Q_HB, Q_B0, Q_Y0, Q_Y1, Q_Z1⟩ hb_ hon hoff
          refine ⟨_, rfl, fun K hK => ?_⟩
          have e20 : a.tmps[20]? = some (.bool false) := by rw [ha]; exact (putSel_off rfl).trans rfl
          replace ha := Aside0.mk ha
          have HB := Aside0.mk Q_HB
          have B0 := Aside0.mk Q_B0
          have Y0 := Aside0.mk (Q_Y0 (hoff 12 (by kernel_rfl)))
          have Z1 := Aside0.mk Q_Z1
          refine off_ (wanted_off rfl rfl rfl (e20.trans (by first | rfl | (simp [*]; done)))) ?_
          refine hK.out _ _ ⟨(by rw [ha.out]; exact putSel_upk 1 hb_ rfl rfl rfl), Q_HB, Q_B0, Q_Y0, fun h0_ => absurd ((hoff 12 (by kernel_rfl)).symm.trans h0_) (by decide), Q_Z1⟩
        refine steps_cons ?_ ?_
        · rintro b a w' ⟨ha, Q_HB, Q_B0, Q_Y0, Q_Y1, Q_Z1⟩ hb_ hon hoff
          refine ⟨_, rfl, fun K hK => ?_⟩
          have e20 : a.tmps[20]? = some (.bool false) := by rw [ha]; exact (putSel_off rfl).trans rfl
          replace ha := Aside0.mk ha
          have HB := Aside0.mk Q_HB
          have B0 := Aside0.mk Q_B0
          have Y0 := Aside0.mk (Q_Y0 (hoff 12 (by kernel_rfl)))
          have Z1 := Aside0.mk Q_Z1
          refine off_ (wanted_off rfl rfl rfl (e20.trans (by first | rfl | (simp [*]; done)))) ?_
          refine hK.out _ _ ⟨(by rw [ha.out]; exact putSel_upk 2 hb_ rfl rfl rfl), Q_HB, Q_B0, Q_Y0, fun h0_ => absurd ((hoff 12 (by kernel_rfl)).symm.trans h0_) (by decide), Q_Z1⟩
        refine steps_cons ?_ ?_
        · rintro b a w' ⟨ha, Q_HB, Q_B0, Q_Y0, Q_Y1, Q_Z1⟩ hb_ hon hoff
          refine ⟨_, rfl, fun K hK => ?_⟩
          have e20 : a.tmps[20]? = some (.bool false) := by rw [ha]; exact (putSel_off rfl).trans rfl
          replace ha := Aside0.mk ha
          have HB := Aside0.mk Q_HB
          have B0 := Aside0.mk Q_B0
          have Y0 := Aside0.mk (Q_Y0 (hoff 12 (by kernel_rfl)))
          have Z1 := Aside0.mk Q_Z1
          refine off_ (wanted_off rfl rfl rfl (e20.trans (by first | rfl | (simp [*]; done)))) ?_
          refine hK.out _ _ ⟨(by rw [ha.out]; exact putSel_upk 3 hb_ rfl rfl rfl), Q_HB, Q_B0, Q_Y0, fun h0_ => absurd ((hoff 12 (by kernel_rfl)).symm.trans h0_) (by decide), Q_Z1⟩
        refine steps_cons ?_ ?_
        · rintro b a w' ⟨ha, Q_HB, Q_B0, Q_Y0, Q_Y1, Q_Z1⟩ hb_ hon hoff
          refine ⟨_, rfl, fun K hK => ?_⟩
          have e20 : a.tmps[20]? = some (.bool false) := by rw [ha]; exact (putSel_off rfl).trans rfl
          have e23 : a.tmps[23]? = some (undef) := by rw [ha]; exact putSel_on (e := (5, 23, undef)) 3 rfl rfl (hon 5 (by kernel_rfl)) rfl
          replace ha := Aside0.mk ha
          have HB := Aside0.mk Q_HB
          have B0 := Aside0.mk Q_B0
          have Y0 := Aside0.mk (Q_Y0 (hoff 12 (by kernel_rfl)))
          have Z1 := Aside0.mk Q_Z1
          refine value_ (w1 := w') (v := .bool false) (by rfl) rfl ?_ ?_
          · go_simp
            (try simp only [i64_w])
            try rfl
          refine hK.out _ _ ⟨(by rw [ha.out]; exact putSel_upk 4 hb_ rfl rfl rfl), Q_HB, Q_B0, Q_Y0, fun h0_ => absurd ((hoff 12 (by kernel_rfl)).symm.trans h0_) (by decide), Q_Z1⟩
        refine steps_cons ?_ ?_
        · rintro b a w' ⟨ha, Q_HB, Q_B0, Q_Y0, Q_Y1, Q_Z1⟩ hb_ hon hoff
          refine ⟨_, rfl, fun K hK => ?_⟩
          have e24 : a.tmps[24]? = some (.bool false) := by rw [ha]; exact putSel_on (e := (6, 24, .bool false)) 4 rfl rfl (hon 6 (by kernel_rfl)) rfl
          replace ha := Aside0.mk ha
          have HB := Aside0.mk Q_HB
          have B0 := Aside0.mk Q_B0
          have Y0 := Aside0.mk (Q_Y0 (hoff 12 (by kernel_rfl)))
          have Z1 := Aside0.mk Q_Z1
          refine value_ (w1 := w') (v := .bool false) (by rfl) rfl ?_ ?_
          · go_simp
            (try simp only [i64_w])
            try rfl
          refine hK.out _ _ ⟨(by rw [ha.out]; exact putSel_upk 5 hb_ rfl rfl rfl), Q_HB, Q_B0, Q_Y0, fun h0_ => absurd ((hoff 12 (by kernel_rfl)).symm.trans h0_) (by decide), Q_Z1⟩
        refine steps_cons ?_ ?_
        · rintro b a w' ⟨ha, Q_HB, Q_B0, Q_Y0, Q_Y1, Q_Z1⟩ hb_ hon hoff
          refine ⟨_, rfl, fun K hK => ?_⟩
          have e25 : a.tmps[25]? = some (.bool false) := by rw [ha]; exact putSel_on (e := (7, 25, .bool false)) 5 rfl rfl (hon 7 (by kernel_rfl)) rfl
          replace ha := Aside0.mk ha
          have HB := Aside0.mk Q_HB
          have B0 := Aside0.mk Q_B0
          have Y0 := Aside0.mk (Q_Y0 (hoff 12 (by kernel_rfl)))
          have Z1 := Aside0.mk Q_Z1
          refine off_ (wanted_off rfl rfl rfl (e25.trans (by first | rfl | (simp [*]; done)))) ?_
          refine hK.out _ _ ⟨(by rw [ha.out]; exact putSel_upk 6 hb_ rfl rfl rfl), Q_HB, Q_B0, Q_Y0, fun h0_ => absurd ((hoff 12 (by kernel_rfl)).symm.trans h0_) (by decide), Q_Z1⟩
        refine steps_cons ?_ ?_
        · rintro b a w' ⟨ha, Q_HB, Q_B0, Q_Y0, Q_Y1, Q_Z1⟩ hb_ hon hoff
          refine ⟨_, rfl, fun K hK => ?_⟩
          have e25 : a.tmps[25]? = some (.bool false) := by rw [ha]; exact putSel_on (e := (7, 25, .bool false)) 5 rfl rfl (hon 7 (by kernel_rfl)) rfl
          replace ha := Aside0.mk ha
          have HB := Aside0.mk Q_HB
          have B0 := Aside0.mk Q_B0
          have Y0 := Aside0.mk (Q_Y0 (hoff 12 (by kernel_rfl)))
          have Z1 := Aside0.mk Q_Z1
          refine off_ (wanted_off rfl rfl rfl (e25.trans (by first | rfl | (simp [*]; done)))) ?_
          refine hK.out _ _ ⟨(by rw [ha.out]; exact putSel_upk 7 hb_ rfl rfl rfl), Q_HB, Q_B0, Q_Y0, fun h0_ => absurd ((hoff 12 (by kernel_rfl)).symm.trans h0_) (by decide), Q_Z1⟩
        refine steps_cons ?_ ?_
        · rintro b a w' ⟨ha, Q_HB, Q_B0, Q_Y0, Q_Y1, Q_Z1⟩ hb_ hon hoff
          refine ⟨_, rfl, fun K hK => ?_⟩
          have e25 : a.tmps[25]? = some (.bool false) := by rw [ha]; exact putSel_on (e := (7, 25, .bool false)) 5 rfl rfl (hon 7 (by kernel_rfl)) rfl
          replace ha := Aside0.mk ha
          have HB := Aside0.mk Q_HB
          have B0 := Aside0.mk Q_B0
          have Y0 := Aside0.mk (Q_Y0 (hoff 12 (by kernel_rfl)))
          have Z1 := Aside0.mk Q_Z1
          refine off_ (wanted_off rfl rfl rfl (e25.trans (by first | rfl | (simp [*]; done)))) ?_
          refine hK.out _ _ ⟨(by rw [ha.out]; exact putSel_upk 8 hb_ rfl rfl rfl), Q_HB, Q_B0, Q_Y0, fun h0_ => absurd ((hoff 12 (by kernel_rfl)).symm.trans h0_) (by decide), Q_Z1⟩
        refine steps_cons ?_ ?_
        · rintro b a w' ⟨ha, Q_HB, Q_B0, Q_Y0, Q_Y1, Q_Z1⟩ hb_ hon hoff
          refine ⟨_, rfl, fun K hK => ?_⟩
          have e25 : a.tmps[25]? = some (.bool false) := by rw [ha]; exact putSel_on (e := (7, 25, .bool false)) 5 rfl rfl (hon 7 (by kernel_rfl)) rfl
          have e28 : a.tmps[28]? = some (undef) := by rw [ha]; exact putSel_on (e := (10, 28, undef)) 8 rfl rfl (hon 10 (by kernel_rfl)) rfl
          replace ha := Aside0.mk ha
          have HB := Aside0.mk Q_HB
          have B0 := Aside0.mk Q_B0
          have Z1 := Aside0.mk Q_Z1
          refine value_ (w1 := w') (v := .bool false) (by rfl) rfl ?_ ?_
          · go_simp
            (try simp only [i64_w])
            try rfl
          refine hK.out _ _ ⟨(by rw [ha.out]; exact putSel_upk 9 hb_ rfl rfl rfl), Q_HB, Q_B0, Q_Y0, Q_Y1, Q_Z1⟩
        refine steps_cons ?_ ?_
        · rintro b a w' ⟨ha, Q_HB, Q_B0, Q_Y0, Q_Y1, Q_Z1⟩ hb_ hon hoff
          refine ⟨_, rfl, fun K hK => ?_⟩
          have e6 : a.tmps[6]? = some (.pointer (some ⟨w.heap.size + 1, 0, none⟩)) := by rw [ha]; exact (putSel_off rfl).trans rfl
          have e18 : a.tmps[18]? = some (.agg #[.int .i64 r1, .int .i64 r2, .int .i64 r3, .int .i64 r4, .int .i64 r5, .int .i64 r6, .int .i64 r7, .int .i64 r8]) := by rw [ha]; exact putSel_on (e := (0, 18, .agg #[.int .i64 r1, .int .i64 r2, .int .i64 r3, .int .i64 r4, .int .i64 r5, .int .i64 r6, .int .i64 r7, .int .i64 r8])) 0 rfl rfl (hon 0 (by kernel_rfl)) rfl
          replace ha := Aside0.mk ha
          have HB := Aside0.mk Q_HB
          have B0 := Aside0.mk Q_B0
          have Y0 := Aside0.mk (Q_Y0 hb_)
          have Z1 := Aside0.mk Q_Z1
          have y0 : w'.cell? ⟨(w.heap.size + 1), 0, none⟩ = some (.int .i64 0) := blk_cell Y0.out 0
          have y1 : w'.cell? ⟨(w.heap.size + 1), 1, none⟩ = some (.int .i64 0) := blk_cell Y0.out 1
          have y2 : w'.cell? ⟨(w.heap.size + 1), 2, none⟩ = some (.int .i64 0) := blk_cell Y0.out 2
          have y3 : w'.cell? ⟨(w.heap.size + 1), 3, none⟩ = some (.int .i64 0) := blk_cell Y0.out 3
          have y4 : w'.cell? ⟨(w.heap.size + 1), 4, none⟩ = some (.int .i64 0) := blk_cell Y0.out 4
          have y5 : w'.cell? ⟨(w.heap.size + 1), 5, none⟩ = some (.int .i64 0) := blk_cell Y0.out 5
          have y6 : w'.cell? ⟨(w.heap.size + 1), 6, none⟩ = some (.int .i64 0) := blk_cell Y0.out 6
          have y7 : w'.cell? ⟨(w.heap.size + 1), 7, none⟩ = some (.int .i64 0) := blk_cell Y0.out 7
          have yf0 := blk_frozen Y0.out 0
          have yf1 := blk_frozen Y0.out 1
          have yf2 := blk_frozen Y0.out 2
          have yf3 := blk_frozen Y0.out 3
          have yf4 := blk_frozen Y0.out 4
          have yf5 := blk_frozen Y0.out 5
          have yf6 := blk_frozen Y0.out 6
          have yf7 := blk_frozen Y0.out 7
          have hg8 := Z1.out.2
          have hn0 : w.heap.size ≠ w.heap.size + 1 := by omega
          have hn1 : g8_ ≠ w.heap.size + 1 := by omega
          refine skip_ (w1 := ?_) (by rfl) rfl ?_ ?_
          rotate_left
          · go_simp
            rfl
          refine hK.out _ _ ⟨(by rw [ha.out]; exact putSel_none (v := undef) rfl), (below_set (below_set (below_set (below_set (below_set (below_set (below_set (below_set HB.out (by omega)) (by omega)) (by omega)) (by omega)) (by omega)) (by omega)) (by omega)) (by omega)), (blk_far (blk_far (blk_far (blk_far (blk_far (blk_far (blk_far (blk_far B0.out hn0 _) hn0 _) hn0 _) hn0 _) hn0 _) hn0 _) hn0 _) hn0 _), fun h0_ => absurd ((up_self b 12).symm.trans h0_) (by decide), fun _ => (blk_put (cs := c8 r1 r2 r3 r4 r5 r6 r7 0) (blk_put (cs := c8 r1 r2 r3 r4 r5 r6 0 0) (blk_put (cs := c8 r1 r2 r3 r4 r5 0 0 0) (blk_put (cs := c8 r1 r2 r3 r4 0 0 0 0) (blk_put (cs := c8 r1 r2 r3 0 0 0 0 0) (blk_put (cs := c8 r1 r2 0 0 0 0 0 0) (blk_put (cs := c8 r1 0 0 0 0 0 0 0) (blk_put (cs := c8 0 0 0 0 0 0 0 0) Y0.out 0 _ rfl) 1 _ rfl) 2 _ rfl) 3 _ rfl) 4 _ rfl) 5 _ rfl) 6 _ rfl) 7 _ rfl), ⟨(blk_far (blk_far (blk_far (blk_far (blk_far (blk_far (blk_far (blk_far Z1.out.1 hn1 _) hn1 _) hn1 _) hn1 _) hn1 _) hn1 _) hn1 _) hn1 _), hg8⟩⟩
        refine steps_cons ?_ ?_
        · rintro b a w' ⟨ha, Q_HB, Q_B0, Q_Y0, Q_Y1, Q_Z1⟩ hb_ hon hoff
          refine ⟨_, rfl, fun K hK => ?_⟩
          have e29 : a.tmps[29]? = some (.bool false) := by rw [ha]; exact putSel_on (e := (11, 29, .bool false)) 9 rfl rfl (hon 11 (by kernel_rfl)) rfl
          replace ha := Aside0.mk ha
          have HB := Aside0.mk Q_HB
          have B0 := Aside0.mk Q_B0
          have Y1 := Aside0.mk (Q_Y1 (hon 12 (by kernel_rfl)))
          have Z1 := Aside0.mk Q_Z1
          refine value_ (w1 := w') (v := .bool false) (by rfl) rfl ?_ ?_
          · go_simp
            (try simp only [i64_w])
            try rfl
          refine hK.out _ _ ⟨(by rw [ha.out]; exact putSel_upk 10 hb_ rfl rfl rfl), Q_HB, Q_B0, fun h0_ => absurd ((hon 12 (by kernel_rfl)).symm.trans h0_) (by decide), Q_Y1, Q_Z1⟩
        exact steps_nil
      · rintro b a w' hall ⟨ha, Q_HB, Q_B0, Q_Y0, Q_Y1, Q_Z1⟩
        clear B0 HB Y0 Z1
        have hb0_ := hall 0 (by kernel_rfl)
        have hb3_ := hall 3 (by kernel_rfl)
        have hb4_ := hall 4 (by kernel_rfl)
        have hb5_ := hall 5 (by kernel_rfl)
        have hb6_ := hall 6 (by kernel_rfl)
        have hb7_ := hall 7 (by kernel_rfl)
        have hb8_ := hall 8 (by kernel_rfl)
        have hb9_ := hall 9 (by kernel_rfl)
        have hb10_ := hall 10 (by kernel_rfl)
        have hb11_ := hall 11 (by kernel_rfl)
        have hb12_ := hall 12 (by kernel_rfl)
        have hb13_ := hall 13 (by kernel_rfl)
        subst ha
        simp only [putSel, hb0_, hb3_, hb4_, hb5_, hb6_, hb7_, hb8_, hb9_, hb10_, hb11_, hb12_, hb13_, if_true, Act.put, List.setIfInBounds_toArray, List.set_cons_zero, List.set_cons_succ]
        have HB := Aside0.mk Q_HB
        clear Q_HB
        have B0 := Aside0.mk Q_B0
        clear Q_B0
        clear Q_Y0
        have Y1 := Aside0.mk (Q_Y1 hb12_)
        clear Q_Y1
        have Z1 := Aside0.mk Q_Z1
        clear Q_Z1
        clear hall hb0_ hb3_ hb4_ hb5_ hb6_ hb7_ hb8_ hb9_ hb10_ hb11_ hb12_ hb13_
        go_wp2_with fail
        refine bodyPost_ret (results_ct rfl _ _ (w.heap.size + 1) 30 (c8 r1 r2 r3 r4 r5 r6 r7 r8) (0, 0) _ rfl Y1.out Tryd.underlying30 rfl (by kernel_rfl)) rfl ?_
        exact ⟨by simp, HB.out⟩
    | true =>
      have H5 := Go.Lib.hid (H3.out rfl)
      have H6 := Go.Lib.hid (H4.out rfl)
      cases m1 with
      | false =>
        go_upto_region 2 with fail
        refine start_ (n := 14) (S := fun w' => True) (ds := []) #[false, false, false, false, false, false, false, false, false, false, false, false, false, false] (by kernel_rfl) rfl rfl trivial (fun hHeld => ?_)
        refine with_tabW over.tab2 over.bits2 (fun HT_ HW_ => ?_)
        have n0_ := Go.Lib.hid (below_drew HB.out)
        have n1_ := Go.Lib.hid (blk_drew B0.out)
        have n2_ := Go.Lib.hid (blk_drew Y0.out)
        have n3_ := Go.Lib.hid (And.intro (blk_drew Z1.out.1) Z1.out.2)
        clear HB B0 Y0 Z1
        have HB := n0_
        have B0 := n1_
        have Y0 := n2_
        have Z1 := n3_
        clear n0_ n1_ n2_ n3_
        generalize World.drew _ = w25 at HB B0 Y0 Z1 hHeld ⊢
        refine pure_ (i := 1) (N := some 19) (v := ?_) (a' := ?_) #[false, true, false, false, false, false, false, false, false, false, false, false, false, false] rfl rfl (any_of HT_.out (by kernel_rfl)) (fun _ _ _ h => h) (Or.inl ⟨by rfl, ?_⟩) ?_ ?_
        rotate_left
        · intro w'
          go_simp
          with_reducible rfl
        rotate_left
        · simp only [Act.put, List.setIfInBounds_toArray, List.set_cons_zero, List.set_cons_succ, i64_w, i32_w]
          rfl
        refine pure_ (i := 2) (N := some 20) (v := ?_) (a' := ?_) #[false, true, true, false, false, false, false, false, false, false, false, false, false, false] rfl rfl (any_of HT_.out (by kernel_rfl)) (fun _ _ _ h => h) (Or.inl ⟨by rfl, ?_⟩) ?_ ?_
        rotate_left
        · intro w'
          go_simp
          with_reducible rfl
        rotate_left
        · simp only [Act.put, List.setIfInBounds_toArray, List.set_cons_zero, List.set_cons_succ, i64_w, i32_w]
          rfl
        refine inv_at [0, 3, 4, 5, 6, 7, 8, 9, 10, 11, 12, 13] (fun a0_ b a w' => a = putSel a0_ b [(0, 18, .agg #[.int .i64 r1, .int .i64 r2, .int .i64 r3, .int .i64 r4, .int .i64 r5, .int .i64 r6, .int .i64 r7, .int .i64 r8]), (3, 21, .slice A0 l0.length c0), (4, 22, .agg #[.int .i64 x, .int .i64 y, .int .i64 d0, .int .i64 d1, .int .i64 d2, .int .i64 d3, .int .i64 d4, .int .i64 d5]), (5, 23, .bool false), (6, 24, .bool false), (7, 25, .bool false), (8, 26, undef), (9, 27, undef), (10, 28, undef), (11, 29, .bool false), (13, 7, .bool false)] ∧ (Below w.heap.size w w') ∧ (w'.heap[w.heap.size]? = some (.cells (c8 x y d0 d1 d2 d3 d4 d5) 30 (0, 0))) ∧ (b 12 = false → w'.heap[w.heap.size + 1]? = some (.cells (c8 0 0 0 0 0 0 0 0) 30 (0, 0))) ∧ (b 12 = true → w'.heap[w.heap.size + 1]? = some (.cells (c8 r1 r2 r3 r4 r5 r6 r7 r8) 30 (0, 0))) ∧ (w'.heap[g8_]? = some (.cells (c8 r1 r2 r3 r4 r5 r6 r7 r8) 30 (0, 0)) ∧ w.heap.size + 1 < g8_)) HT_.out HW_.out (by kernel_rfl) (by kernel_rfl) ?_ ?_ ?_
        · exact ⟨by simp only [putSel, Bool.false_eq_true, if_false], HB.out, B0.out, fun _ => Y0.out, fun h_ => absurd h_ (by decide), Z1.out⟩
        · skip
          clear B0 HB Y0 Z1
          refine steps_cons ?_ ?_
          · rintro b a w' ⟨ha, Q_HB, Q_B0, Q_Y0, Q_Y1, Q_Z1⟩ hb_ hon hoff
            refine ⟨_, rfl, fun K hK => ?_⟩
            have e8 : a.tmps[8]? = some (.pointer (some ⟨g8_, 0, none⟩)) := by rw [ha]; exact (putSel_off rfl).trans rfl
            replace ha := Aside0.mk ha
            have HB := Aside0.mk Q_HB
            have B0 := Aside0.mk Q_B0
            have Y0 := Aside0.mk (Q_Y0 (hoff 12 (by kernel_rfl)))
            have Z1 := Aside0.mk Q_Z1
            have z0 : w'.cell? ⟨g8_, 0, none⟩ = some (.int .i64 r1) := blk_cell Z1.out.1 0
            have z1 : w'.cell? ⟨g8_, 1, none⟩ = some (.int .i64 r2) := blk_cell Z1.out.1 1
            have z2 : w'.cell? ⟨g8_, 2, none⟩ = some (.int .i64 r3) := blk_cell Z1.out.1 2
            have z3 : w'.cell? ⟨g8_, 3, none⟩ = some (.int .i64 r4) := blk_cell Z1.out.1 3
            have z4 : w'.cell? ⟨g8_, 4, none⟩ = some (.int .i64 r5) := blk_cell Z1.out.1 4
            have z5 : w'.cell? ⟨g8_, 5, none⟩ = some (.int .i64 r6) := blk_cell Z1.out.1 5
            have z6 : w'.cell? ⟨g8_, 6, none⟩ = some (.int .i64 r7) := blk_cell Z1.out.1 6
            have z7 : w'.cell? ⟨g8_, 7, none⟩ = some (.int .i64 r8) := blk_cell Z1.out.1 7
            refine value_ (w1 := w') (v := .agg #[.int .i64 r1, .int .i64 r2, .int .i64 r3, .int .i64 r4, .int .i64 r5, .int .i64 r6, .int .i64 r7, .int .i64 r8]) (by rfl) rfl ?_ ?_
            · go_simp
              (try simp only [i64_w])
              try rfl
            refine hK.out _ _ ⟨(by rw [ha.out]; exact putSel_upk 0 hb_ rfl rfl rfl), Q_HB, Q_B0, Q_Y0, fun h0_ => absurd ((hoff 12 (by kernel_rfl)).symm.trans h0_) (by decide), Q_Z1⟩
          refine steps_cons ?_ ?_
          · rintro b a w' ⟨ha, Q_HB, Q_B0, Q_Y0, Q_Y1, Q_Z1⟩ hb_ hon hoff
            refine ⟨_, rfl, fun K hK => ?_⟩
            have e0 : a.tmps[0]? = some (.slice A0 l0.length c0) := by rw [ha]; exact (putSel_off rfl).trans rfl
            have e20 : a.tmps[20]? = some (.bool true) := by rw [ha]; exact (putSel_off rfl).trans rfl
            replace ha := Aside0.mk ha
            have HB := Aside0.mk Q_HB
            have B0 := Aside0.mk Q_B0
            have Y0 := Aside0.mk (Q_Y0 (hoff 12 (by kernel_rfl)))
            have Z1 := Aside0.mk Q_Z1
            refine value_ (w1 := w') (v := .slice A0 l0.length c0) (wanted_on rfl rfl rfl (e20.trans (by first | rfl | (simp [*]; done)))) rfl ?_ ?_
            · go_simp
              (try simp only [i64_w])
              try rfl
            refine hK.out _ _ ⟨(by rw [ha.out]; exact putSel_upk 1 hb_ rfl rfl rfl), Q_HB, Q_B0, Q_Y0, fun h0_ => absurd ((hoff 12 (by kernel_rfl)).symm.trans h0_) (by decide), Q_Z1⟩
          refine steps_cons ?_ ?_
          · rintro b a w' ⟨ha, Q_HB, Q_B0, Q_Y0, Q_Y1, Q_Z1⟩ hb_ hon hoff
            refine ⟨_, rfl, fun K hK => ?_⟩
            have e4 : a.tmps[4]? = some (.pointer (some ⟨w.heap.size, 0, none⟩)) := by rw [ha]; exact (putSel_off rfl).trans rfl
            have e20 : a.tmps[20]? = some (.bool true) := by rw [ha]; exact (putSel_off rfl).trans rfl
            replace ha := Aside0.mk ha
            have HB := Aside0.mk Q_HB
            have B0 := Aside0.mk Q_B0
            have Y0 := Aside0.mk (Q_Y0 (hoff 12 (by kernel_rfl)))
            have Z1 := Aside0.mk Q_Z1
            have k0 : w'.cell? ⟨w.heap.size, 0, none⟩ = some (.int .i64 x) := blk_cell B0.out 0
            have k1 : w'.cell? ⟨w.heap.size, 1, none⟩ = some (.int .i64 y) := blk_cell B0.out 1
            have k2 : w'.cell? ⟨w.heap.size, 2, none⟩ = some (.int .i64 d0) := blk_cell B0.out 2
            have k3 : w'.cell? ⟨w.heap.size, 3, none⟩ = some (.int .i64 d1) := blk_cell B0.out 3
            have k4 : w'.cell? ⟨w.heap.size, 4, none⟩ = some (.int .i64 d2) := blk_cell B0.out 4
            have k5 : w'.cell? ⟨w.heap.size, 5, none⟩ = some (.int .i64 d3) := blk_cell B0.out 5
            have k6 : w'.cell? ⟨w.heap.size, 6, none⟩ = some (.int .i64 d4) := blk_cell B0.out 6
            have k7 : w'.cell? ⟨w.heap.size, 7, none⟩ = some (.int .i64 d5) := blk_cell B0.out 7
            refine value_ (w1 := w') (v := .agg #[.int .i64 x, .int .i64 y, .int .i64 d0, .int .i64 d1, .int .i64 d2, .int .i64 d3, .int .i64 d4, .int .i64 d5]) (wanted_on rfl rfl rfl (e20.trans (by first | rfl | (simp [*]; done)))) rfl ?_ ?_
            · go_simp
              (try simp only [i64_w])
              try rfl
            refine hK.out _ _ ⟨(by rw [ha.out]; exact putSel_upk 2 hb_ rfl rfl rfl), Q_HB, Q_B0, Q_Y0, fun h0_ => absurd ((hoff 12 (by kernel_rfl)).symm.trans h0_) (by decide), Q_Z1⟩
          refine steps_cons ?_ ?_
          · rintro b a w' ⟨ha, Q_HB, Q_B0, Q_Y0, Q_Y1, Q_Z1⟩ hb_ hon hoff
            refine ⟨_, rfl, fun K hK => ?_⟩
            have e21 : a.tmps[21]? = some (.slice A0 l0.length c0) := by rw [ha]; exact putSel_on (e := (3, 21, .slice A0 l0.length c0)) 1 rfl rfl (hon 3 (by kernel_rfl)) rfl
            have e22 : a.tmps[22]? = some (.agg #[.int .i64 x, .int .i64 y, .int .i64 d0, .int .i64 d1, .int .i64 d2, .int .i64 d3, .int .i64 d4, .int .i64 d5]) := by rw [ha]; exact putSel_on (e := (4, 22, .agg #[.int .i64 x, .int .i64 y, .int .i64 d0, .int .i64 d1, .int .i64 d2, .int .i64 d3, .int .i64 d4, .int .i64 d5])) 2 rfl rfl (hon 4 (by kernel_rfl)) rfl
            have e20 : a.tmps[20]? = some (.bool true) := by rw [ha]; exact (putSel_off rfl).trans rfl
            replace ha := Aside0.mk ha
            have HB := Aside0.mk Q_HB
            have B0 := Aside0.mk Q_B0
            have Y0 := Aside0.mk (Q_Y0 (hoff 12 (by kernel_rfl)))
            have Z1 := Aside0.mk Q_Z1
            refine goes_ Tryd.func29 (by kernel_rfl) rfl #[.slice A0 l0.length c0, .agg #[.int .i64 x, .int .i64 y, .int .i64 d0, .int .i64 d1, .int .i64 d2, .int .i64 d3, .int .i64 d4, .int .i64 d5]] (wanted_on rfl rfl rfl (e20.trans (by first | rfl | (simp [*]; done)))) rfl rfl (by first | (simp only [List.map_toArray, List.map_cons, List.map_nil, Act.eval, Array.getD_eq_getD_getElem?, Option.getD_some, e21, e22, e20]; done) | (simp only [List.map_toArray, List.map_cons, List.map_nil, Act.eval, Array.getD_eq_getD_getElem?, Option.getD_some, e21, e22, e20]; rfl)) ?_
            with_reducible refine (QBo.impl_grid_matches.calls A0 c0 l0 x y d0 d1 d2 d3 d4 d5 false _ (Kd.C_below HR.out HB.out) HC.out H5.out).mono ?_
            rintro e' w1 ⟨rfl, hd⟩
            refine ⟨_, rfl, ?_⟩
            refine hK.out _ _ ⟨(by rw [ha.out]; exact putSel_upk 3 hb_ rfl rfl rfl), below_then HB.out HB.out.size hd, blk_below B0.out hd, fun _ => blk_below Y0.out hd, fun h0_ => absurd ((hoff 12 (by kernel_rfl)).symm.trans h0_) (by decide), ⟨blk_below Z1.out.1 hd, Z1.out.2⟩⟩
          refine steps_cons ?_ ?_
          · rintro b a w' ⟨ha, Q_HB, Q_B0, Q_Y0, Q_Y1, Q_Z1⟩ hb_ hon hoff
            refine ⟨_, rfl, fun K hK => ?_⟩
            have e20 : a.tmps[20]? = some (.bool true) := by rw [ha]; exact (putSel_off rfl).trans rfl
            have e23 : a.tmps[23]? = some (.bool false) := by rw [ha]; exact putSel_on (e := (5, 23, .bool false)) 3 rfl rfl (hon 5 (by kernel_rfl)) rfl
            replace ha := Aside0.mk ha
            have HB := Aside0.mk Q_HB
            have B0 := Aside0.mk Q_B0
            have Y0 := Aside0.mk (Q_Y0 (hoff 12 (by kernel_rfl)))
            have Z1 := Aside0.mk Q_Z1
            refine value_ (w1 := w') (v := .bool false) (by rfl) rfl ?_ ?_
            · go_simp
              (try simp only [i64_w])
              try rfl
            refine hK.out _ _ ⟨(by rw [ha.out]; exact putSel_upk 4 hb_ rfl rfl rfl), Q_HB, Q_B0, Q_Y0, fun h0_ => absurd ((hoff 12 (by kernel_rfl)).symm.trans h0_) (by decide), Q_Z1⟩
          refine steps_cons ?_ ?_
          · rintro b a w' ⟨ha, Q_HB, Q_B0, Q_Y0, Q_Y1, Q_Z1⟩ hb_ hon hoff
            refine ⟨_, rfl, fun K hK => ?_⟩
            have e24 : a.tmps[24]? = some (.bool false) := by rw [ha]; exact putSel_on (e := (6, 24, .bool false)) 4 rfl rfl (hon 6 (by kernel_rfl)) rfl
            replace ha := Aside0.mk ha
            have HB := Aside0.mk Q_HB
            have B0 := Aside0.mk Q_B0
            have Y0 := Aside0.mk (Q_Y0 (hoff 12 (by kernel_rfl)))
            have Z1 := Aside0.mk Q_Z1
            refine value_ (w1 := w') (v := .bool false) (by rfl) rfl ?_ ?_
            · go_simp
              (try simp only [i64_w])
              try rfl
            refine hK.out _ _ ⟨(by rw [ha.out]; exact putSel_upk 5 hb_ rfl rfl rfl), Q_HB, Q_B0, Q_Y0, fun h0_ => absurd ((hoff 12 (by kernel_rfl)).symm.trans h0_) (by decide), Q_Z1⟩
          refine steps_cons ?_ ?_
          · rintro b a w' ⟨ha, Q_HB, Q_B0, Q_Y0, Q_Y1, Q_Z1⟩ hb_ hon hoff
            refine ⟨_, rfl, fun K hK => ?_⟩
            have e25 : a.tmps[25]? = some (.bool false) := by rw [ha]; exact putSel_on (e := (7, 25, .bool false)) 5 rfl rfl (hon 7 (by kernel_rfl)) rfl
            replace ha := Aside0.mk ha
            have HB := Aside0.mk Q_HB
            have B0 := Aside0.mk Q_B0
            have Y0 := Aside0.mk (Q_Y0 (hoff 12 (by kernel_rfl)))
            have Z1 := Aside0.mk Q_Z1
            refine off_ (wanted_off rfl rfl rfl (e25.trans (by first | rfl | (simp [*]; done)))) ?_
            refine hK.out _ _ ⟨(by rw [ha.out]; exact putSel_upk 6 hb_ rfl rfl rfl), Q_HB, Q_B0, Q_Y0, fun h0_ => absurd ((hoff 12 (by kernel_rfl)).symm.trans h0_) (by decide), Q_Z1⟩
          refine steps_cons ?_ ?_
          · rintro b a w' ⟨ha, Q_HB, Q_B0, Q_Y0, Q_Y1, Q_Z1⟩ hb_ hon hoff
            refine ⟨_, rfl, fun K hK => ?_⟩
            have e25 : a.tmps[25]? = some (.bool false) := by rw [ha]; exact putSel_on (e := (7, 25, .bool false)) 5 rfl rfl (hon 7 (by kernel_rfl)) rfl
            replace ha := Aside0.mk ha
            have HB := Aside0.mk Q_HB
            have B0 := Aside0.mk Q_B0
            have Y0 := Aside0.mk (Q_Y0 (hoff 12 (by kernel_rfl)))
            have Z1 := Aside0.mk Q_Z1
            refine off_ (wanted_off rfl rfl rfl (e25.trans (by first | rfl | (simp [*]; done)))) ?_
            refine hK.out _ _ ⟨(by rw [ha.out]; exact putSel_upk 7 hb_ rfl rfl rfl), Q_HB, Q_B0, Q_Y0, fun h0_ => absurd ((hoff 12 (by kernel_rfl)).symm.trans h0_) (by decide), Q_Z1⟩
          refine steps_cons ?_ ?_
          · rintro b a w' ⟨ha, Q_HB, Q_B0, Q_Y0, Q_Y1, Q_Z1⟩ hb_ hon hoff
            refine ⟨_, rfl, fun K hK => ?_⟩
            have e25 : a.tmps[25]? = some (.bool false) := by rw [ha]; exact putSel_on (e := (7, 25, .bool false)) 5 rfl rfl (hon 7 (by kernel_rfl)) rfl
            replace ha := Aside0.mk ha
            have HB := Aside0.mk Q_HB
            have B0 := Aside0.mk Q_B0
            have Y0 := Aside0.mk (Q_Y0 (hoff 12 (by kernel_rfl)))
            have Z1 := Aside0.mk Q_Z1
            refine off_ (wanted_off rfl rfl rfl (e25.trans (by first | rfl | (simp [*]; done)))) ?_
            refine hK.out _ _ ⟨(by rw [ha.out]; exact putSel_upk 8 hb_ rfl rfl rfl), Q_HB, Q_B0, Q_Y0, fun h0_ => absurd ((hoff 12 (by kernel_rfl)).symm.trans h0_) (by decide), Q_Z1⟩
          refine steps_cons ?_ ?_
          · rintro b a w' ⟨ha, Q_HB, Q_B0, Q_Y0, Q_Y1, Q_Z1⟩ hb_ hon hoff
            refine ⟨_, rfl, fun K hK => ?_⟩
            have e25 : a.tmps[25]? = some (.bool false) := by rw [ha]; exact putSel_on (e := (7, 25, .bool false)) 5 rfl rfl (hon 7 (by kernel_rfl)) rfl
            have e28 : a.tmps[28]? = some (undef) := by rw [ha]; exact putSel_on (e := (10, 28, undef)) 8 rfl rfl (hon 10 (by kernel_rfl)) rfl
            replace ha := Aside0.mk ha
            have HB := Aside0.mk Q_HB
            have B0 := Aside0.mk Q_B0
            have Z1 := Aside0.mk Q_Z1
            refine value_ (w1 := w') (v := .bool false) (by rfl) rfl ?_ ?_
            · go_simp
              (try simp only [i64_w])
              try rfl
            refine hK.out _ _ ⟨(by rw [ha.out]; exact putSel_upk 9 hb_ rfl rfl rfl), Q_HB, Q_B0, Q_Y0, Q_Y1, Q_Z1⟩
          refine steps_cons ?_ ?_
          · rintro b a w' ⟨ha, Q_HB, Q_B0, Q_Y0, Q_Y1, Q_Z1⟩ hb_ hon hoff
            refine ⟨_, rfl, fun K hK => ?_⟩
            have e6 : a.tmps[6]? = some (.pointer (some ⟨w.heap.size + 1, 0, none⟩)) := by rw [ha]; exact (putSel_off rfl).trans rfl
            have e18 : a.tmps[18]? = some (.agg #[.int .i64 r1, .int .i64 r2, .int .i64 r3, .int .i64 r4, .int .i64 r5, .int .i64 r6, .int .i64 r7, .int .i64 r8]) := by rw [ha]; exact putSel_on (e := (0, 18, .agg #[.int .i64 r1, .int .i64 r2, .int .i64 r3, .int .i64 r4, .int .i64 r5, .int .i64 r6, .int .i64 r7, .int .i64 r8])) 0 rfl rfl (hon 0 (by kernel_rfl)) rfl
            replace ha := Aside0.mk ha
            have HB := Aside0.mk Q_HB
            have B0 := Aside0.mk Q_B0
            have Y0 := Aside0.mk (Q_Y0 hb_)
            have Z1 := Aside0.mk Q_Z1
            have y0 : w'.cell? ⟨(w.heap.size + 1), 0, none⟩ = some (.int .i64 0) := blk_cell Y0.out 0
            have y1 : w'.cell? ⟨(w.heap.size + 1), 1, none⟩ = some (.int .i64 0) := blk_cell Y0.out 1
            have y2 : w'.cell? ⟨(w.heap.size + 1), 2, none⟩ = some (.int .i64 0) := blk_cell Y0.out 2
            have y3 : w'.cell? ⟨(w.heap.size + 1), 3, none⟩ = some (.int .i64 0) := blk_cell Y0.out 3
            have y4 : w'.cell? ⟨(w.heap.size + 1), 4, none⟩ = some (.int .i64 0) := blk_cell Y0.out 4
            have y5 : w'.cell? ⟨(w.heap.size + 1), 5, none⟩ = some (.int .i64 0) := blk_cell Y0.out 5
            have y6 : w'.cell? ⟨(w.heap.size + 1), 6, none⟩ = some (.int .i64 0) := blk_cell Y0.out 6
            have y7 : w'.cell? ⟨(w.heap.size + 1), 7, none⟩ = some (.int .i64 0) := blk_cell Y0.out 7
            have yf0 := blk_frozen Y0.out 0
            have yf1 := blk_frozen Y0.out 1
            have yf2 := blk_frozen Y0.out 2
            have yf3 := blk_frozen Y0.out 3
            have yf4 := blk_frozen Y0.out 4
            have yf5 := blk_frozen Y0.out 5
            have yf6 := blk_frozen Y0.out 6
            have yf7 := blk_frozen Y0.out 7
            have hg8 := Z1.out.2
            have hn0 : w.heap.size ≠ w.heap.size + 1 := by omega
            have hn1 : g8_ ≠ w.heap.size + 1 := by omega
            refine skip_ (w1 := ?_) (by rfl) rfl ?_ ?_
            rotate_left
            · go_simp
              rfl
            refine hK.out _ _ ⟨(by rw [ha.out]; exact putSel_none (v := undef) rfl), (below_set (below_set (below_set (below_set (below_set (below_set (below_set (below_set HB.out (by omega)) (by omega)) (by omega)) (by omega)) (by omega)) (by omega)) (by omega)) (by omega)), (blk_far (blk_far (blk_far (blk_far (blk_far (blk_far (blk_far (blk_far B0.out hn0 _) hn0 _) hn0 _) hn0 _) hn0 _) hn0 _) hn0 _) hn0 _), fun h0_ => absurd ((up_self b 12).symm.trans h0_) (by decide), fun _ => (blk_put (cs := c8 r1 r2 r3 r4 r5 r6 r7 0) (blk_put (cs := c8 r1 r2 r3 r4 r5 r6 0 0) (blk_put (cs := c8 r1 r2 r3 r4 r5 0 0 0) (blk_put (cs := c8 r1 r2 r3 r4 0 0 0 0) (blk_put (cs := c8 r1 r2 r3 0 0 0 0 0) (blk_put (cs := c8 r1 r2 0 0 0 0 0 0) (blk_put (cs := c8 r1 0 0 0 0 0 0 0) (blk_put (cs := c8 0 0 0 0 0 0 0 0) Y0.out 0 _ rfl) 1 _ rfl) 2 _ rfl) 3 _ rfl) 4 _ rfl) 5 _ rfl) 6 _ rfl) 7 _ rfl), ⟨(blk_far (blk_far (blk_far (blk_far (blk_far (blk_far (blk_far (blk_far Z1.out.1 hn1 _) hn1 _) hn1 _) hn1 _) hn1 _) hn1 _) hn1 _) hn1 _), hg8⟩⟩
          refine steps_cons ?_ ?_
          · rintro b a w' ⟨ha, Q_HB, Q_B0, Q_Y0, Q_Y1, Q_Z1⟩ hb_ hon hoff
            refine ⟨_, rfl, fun K hK => ?_⟩
            have e29 : a.tmps[29]? = some (.bool false) := by rw [ha]; exact putSel_on (e := (11, 29, .bool false)) 9 rfl rfl (hon 11 (by kernel_rfl)) rfl
            replace ha := Aside0.mk ha
            have HB := Aside0.mk Q_HB
            have B0 := Aside0.mk Q_B0
            have Y1 := Aside0.mk (Q_Y1 (hon 12 (by kernel_rfl)))
            have Z1 := Aside0.mk Q_Z1
            refine value_ (w1 := w') (v := .bool false) (by rfl) rfl ?_ ?_
            · go_simp
              (try simp only [i64_w])
              try rfl
            refine hK.out _ _ ⟨(by rw [ha.out]; exact putSel_upk 10 hb_ rfl rfl rfl), Q_HB, Q_B0, fun h0_ => absurd ((hon 12 (by kernel_rfl)).symm.trans h0_) (by decide), Q_Y1, Q_Z1⟩
          exact steps_nil
        · rintro b a w' hall ⟨ha, Q_HB, Q_B0, Q_Y0, Q_Y1, Q_Z1⟩
          clear B0 HB Y0 Z1
          have hb0_ := hall 0 (by kernel_rfl)
          have hb3_ := hall 3 (by kernel_rfl)
          have hb4_ := hall 4 (by kernel_rfl)
          have hb5_ := hall 5 (by kernel_rfl)
          have hb6_ := hall 6 (by kernel_rfl)
          have hb7_ := hall 7 (by kernel_rfl)
          have hb8_ := hall 8 (by kernel_rfl)
          have hb9_ := hall 9 (by kernel_rfl)
          have hb10_ := hall 10 (by kernel_rfl)
          have hb11_ := hall 11 (by kernel_rfl)
          have hb12_ := hall 12 (by kernel_rfl)
          have hb13_ := hall 13 (by kernel_rfl)
          subst ha
          simp only [putSel, hb0_, hb3_, hb4_, hb5_, hb6_, hb7_, hb8_, hb9_, hb10_, hb11_, hb12_, hb13_, if_true, Act.put, List.setIfInBounds_toArray, List.set_cons_zero, List.set_cons_succ]
          have HB := Aside0.mk Q_HB
          clear Q_HB
          have B0 := Aside0.mk Q_B0
          clear Q_B0
          clear Q_Y0
          have Y1 := Aside0.mk (Q_Y1 hb12_)
          clear Q_Y1
          have Z1 := Aside0.mk Q_Z1
          clear Q_Z1
          clear hall hb0_ hb3_ hb4_ hb5_ hb6_ hb7_ hb8_ hb9_ hb10_ hb11_ hb12_ hb13_
          go_wp2_with fail
          refine bodyPost_ret (results_ct rfl _ _ (w.heap.size + 1) 30 (c8 r1 r2 r3 r4 r5 r6 r7 r8) (0, 0) _ rfl Y1.out Tryd.underlying30 rfl (by kernel_rfl)) rfl ?_
          exact ⟨by simp, HB.out⟩
      | true =>
        have H7 := Go.Lib.hid (H6.out rfl)
        go_upto_region 2 with fail
        refine start_ (n := 14) (S := fun w' => True) (ds := []) #[false, false, false, false, false, false, false, false, false, false, false, false, false, false] (by kernel_rfl) rfl rfl trivial (fun hHeld => ?_)
        refine with_tabW over.tab2 over.bits2 (fun HT_ HW_ => ?_)
        have n0_ := Go.Lib.hid (below_drew HB.out)
        have n1_ := Go.Lib.hid (blk_drew B0.out)
        have n2_ := Go.Lib.hid (blk_drew Y0.out)
        have n3_ := Go.Lib.hid (And.intro (blk_drew Z1.out.1) Z1.out.2)
        clear HB B0 Y0 Z1
        have HB := n0_
        have B0 := n1_
        have Y0 := n2_
        have Z1 := n3_
        clear n0_ n1_ n2_ n3_
        generalize World.drew _ = w25 at HB B0 Y0 Z1 hHeld ⊢
        refine pure_ (i := 1) (N := some 19) (v := ?_) (a' := ?_) #[false, true, false, false, false, false, false, false, false, false, false, false, false, false] rfl rfl (any_of HT_.out (by kernel_rfl)) (fun _ _ _ h => h) (Or.inl ⟨by rfl, ?_⟩) ?_ ?_
        rotate_left
        · intro w'
          go_simp
          with_reducible rfl
        rotate_left
        · simp only [Act.put, List.setIfInBounds_toArray, List.set_cons_zero, List.set_cons_succ, i64_w, i32_w]
          rfl
        refine pure_ (i := 2) (N := some 20) (v := ?_) (a' := ?_) #[false, true, true, false, false, false, false, false, false, false, false, false, false, false] rfl rfl (any_of HT_.out (by kernel_rfl)) (fun _ _ _ h => h) (Or.inl ⟨by rfl, ?_⟩) ?_ ?_
        rotate_left
        · intro w'
          go_simp
          with_reducible rfl
        rotate_left
        · simp only [Act.put, List.setIfInBounds_toArray, List.set_cons_zero, List.set_cons_succ, i64_w, i32_w]
          rfl
        refine inv_at [0, 3, 4, 5, 6, 7, 8, 9, 10, 11, 12, 13] (fun a0_ b a w' => a = putSel a0_ b [(0, 18, .agg #[.int .i64 r1, .int .i64 r2, .int .i64 r3, .int .i64 r4, .int .i64 r5, .int .i64 r6, .int .i64 r7, .int .i64 r8]), (3, 21, .slice A0 l0.length c0), (4, 22, .agg #[.int .i64 x, .int .i64 y, .int .i64 d0, .int .i64 d1, .int .i64 d2, .int .i64 d3, .int .i64 d4, .int .i64 d5]), (5, 23, .bool true), (6, 24, .bool true), (7, 25, .bool true), (8, 26, .slice A0 l0.length c0), (9, 27, .agg #[.int .i64 r1, .int .i64 r2, .int .i64 r3, .int .i64 r4, .int .i64 r5, .int .i64 r6, .int .i64 r7, .int .i64 r8]), (10, 28, .bool m2), (11, 29, .bool m2), (13, 7, .bool m2)] ∧ (Below w.heap.size w w') ∧ (w'.heap[w.heap.size]? = some (.cells (c8 x y d0 d1 d2 d3 d4 d5) 30 (0, 0))) ∧ (b 12 = false → w'.heap[w.heap.size + 1]? = some (.cells (c8 0 0 0 0 0 0 0 0) 30 (0, 0))) ∧ (b 12 = true → w'.heap[w.heap.size + 1]? = some (.cells (c8 r1 r2 r3 r4 r5 r6 r7 r8) 30 (0, 0))) ∧ (w'.heap[g8_]? = some (.cells (c8 r1 r2 r3 r4 r5 r6 r7 r8) 30 (0, 0)) ∧ w.heap.size + 1 < g8_)) HT_.out HW_.out (by kernel_rfl) (by kernel_rfl) ?_ ?_ ?_
        · exact ⟨by simp only [putSel, Bool.false_eq_true, if_false], HB.out, B0.out, fun _ => Y0.out, fun h_ => absurd h_ (by decide), Z1.out⟩
        · skip
          clear B0 HB Y0 Z1
          refine steps_cons ?_ ?_
          · rintro b a w' ⟨ha, Q_HB, Q_B0, Q_Y0, Q_Y1, Q_Z1⟩ hb_ hon hoff
            refine ⟨_, rfl, fun K hK => ?_⟩
            have e8 : a.tmps[8]? = some (.pointer (some ⟨g8_, 0, none⟩)) := by rw [ha]; exact (putSel_off rfl).trans rfl
            replace ha := Aside0.mk ha
            have HB := Aside0.mk Q_HB
            have B0 := Aside0.mk Q_B0
            have Y0 := Aside0.mk (Q_Y0 (hoff 12 (by kernel_rfl)))
            have Z1 := Aside0.mk Q_Z1
            have z0 : w'.cell? ⟨g8_, 0, none⟩ = some (.int .i64 r1) := blk_cell Z1.out.1 0
            have z1 : w'.cell? ⟨g8_, 1, none⟩ = some (.int .i64 r2) := blk_cell Z1.out.1 1
            have z2 : w'.cell? ⟨g8_, 2, none⟩ = some (.int .i64 r3) := blk_cell Z1.out.1 2
            have z3 : w'.cell? ⟨g8_, 3, none⟩ = some (.int .i64 r4) := blk_cell Z1.out.1 3
            have z4 : w'.cell? ⟨g8_, 4, none⟩ = some (.int .i64 r5) := blk_cell Z1.out.1 4
            have z5 : w'.cell? ⟨g8_, 5, none⟩ = some (.int .i64 r6) := blk_cell Z1.out.1 5
            have z6 : w'.cell? ⟨g8_, 6, none⟩ = some (.int .i64 r7) := blk_cell Z1.out.1 6
            have z7 : w'.cell? ⟨g8_, 7, none⟩ = some (.int .i64 r8) := blk_cell Z1.out.1 7
            refine value_ (w1 := w') (v := .agg #[.int .i64 r1, .int .i64 r2, .int .i64 r3, .int .i64 r4, .int .i64 r5, .int .i64 r6, .int .i64 r7, .int .i64 r8]) (by rfl) rfl ?_ ?_
            · go_simp
              (try simp only [i64_w])
              try rfl
            refine hK.out _ _ ⟨(by rw [ha.out]; exact putSel_upk 0 hb_ rfl rfl rfl), Q_HB, Q_B0, Q_Y0, fun h0_ => absurd ((hoff 12 (by kernel_rfl)).symm.trans h0_) (by decide), Q_Z1⟩
          refine steps_cons ?_ ?_
          · rintro b a w' ⟨ha, Q_HB, Q_B0, Q_Y0, Q_Y1, Q_Z1⟩ hb_ hon hoff
            refine ⟨_, rfl, fun K hK => ?_⟩
            have e0 : a.tmps[0]? = some (.slice A0 l0.length c0) := by rw [ha]; exact (putSel_off rfl).trans rfl
            have e20 : a.tmps[20]? = some (.bool true) := by rw [ha]; exact (putSel_off rfl).trans rfl
            replace ha := Aside0.mk ha
            have HB := Aside0.mk Q_HB
            have B0 := Aside0.mk Q_B0
            have Y0 := Aside0.mk (Q_Y0 (hoff 12 (by kernel_rfl)))
            have Z1 := Aside0.mk Q_Z1
            refine value_ (w1 := w') (v := .slice A0 l0.length c0) (wanted_on rfl rfl rfl (e20.trans (by first | rfl | (simp [*]; done)))) rfl ?_ ?_
            · go_simp
              (try simp only [i64_w])
              try rfl
            refine hK.out _ _ ⟨(by rw [ha.out]; exact putSel_upk 1 hb_ rfl rfl rfl), Q_HB, Q_B0, Q_Y0, fun h0_ => absurd ((hoff 12 (by kernel_rfl)).symm.trans h0_) (by decide), Q_Z1⟩
          refine steps_cons ?_ ?_
          · rintro b a w' ⟨ha, Q_HB, Q_B0, Q_Y0, Q_Y1, Q_Z1⟩ hb_ hon hoff
            refine ⟨_, rfl, fun K hK => ?_⟩
            have e4 : a.tmps[4]? = some (.pointer (some ⟨w.heap.size, 0, none⟩)) := by rw [ha]; exact (putSel_off rfl).trans rfl
            have e20 : a.tmps[20]? = some (.bool true) := by rw [ha]; exact (putSel_off rfl).trans rfl
            replace ha := Aside0.mk ha
            have HB := Aside0.mk Q_HB
            have B0 := Aside0.mk Q_B0
            have Y0 := Aside0.mk (Q_Y0 (hoff 12 (by kernel_rfl)))
            have Z1 := Aside0.mk Q_Z1
            have k0 : w'.cell? ⟨w.heap.size, 0, none⟩ = some (.int .i64 x) := blk_cell B0.out 0
            have k1 : w'.cell? ⟨w.heap.size, 1, none⟩ = some (.int .i64 y) := blk_cell B0.out 1
            have k2 : w'.cell? ⟨w.heap.size, 2, none⟩ = some (.int .i64 d0) := blk_cell B0.out 2
            have k3 : w'.cell? ⟨w.heap.size, 3, none⟩ = some (.int .i64 d1) := blk_cell B0.out 3
            have k4 : w'.cell? ⟨w.heap.size, 4, none⟩ = some (.int .i64 d2) := blk_cell B0.out 4
            have k5 : w'.cell? ⟨w.heap.size, 5, none⟩ = some (.int .i64 d3) := blk_cell B0.out 5
            have k6 : w'.cell? ⟨w.heap.size, 6, none⟩ = some (.int .i64 d4) := blk_cell B0.out 6
            have k7 : w'.cell? ⟨w.heap.size, 7, none⟩ = some (.int .i64 d5) := blk_cell B0.out 7
            refine value_ (w1 := w') (v := .agg #[.int .i64 x, .int .i64 y, .int .i64 d0, .int .i64 d1, .int .i64 d2, .int .i64 d3, .int .i64 d4, .int .i64 d5]) (wanted_on rfl rfl rfl (e20.trans (by first | rfl | (simp [*]; done)))) rfl ?_ ?_
            · go_simp
              (try simp only [i64_w])
              try rfl
            refine hK.out _ _ ⟨(by rw [ha.out]; exact putSel_upk 2 hb_ rfl rfl rfl), Q_HB, Q_B0, Q_Y0, fun h0_ => absurd ((hoff 12 (by kernel_rfl)).symm.trans h0_) (by decide), Q_Z1⟩
          refine steps_cons ?_ ?_
          · rintro b a w' ⟨ha, Q_HB, Q_B0, Q_Y0, Q_Y1, Q_Z1⟩ hb_ hon hoff
            refine ⟨_, rfl, fun K hK => ?_⟩
            have e21 : a.tmps[21]? = some (.slice A0 l0.length c0) := by rw [ha]; exact putSel_on (e := (3, 21, .slice A0 l0.length c0)) 1 rfl rfl (hon 3 (by kernel_rfl)) rfl
            have e22 : a.tmps[22]? = some (.agg #[.int .i64 x, .int .i64 y, .int .i64 d0, .int .i64 d1, .int .i64 d2, .int .i64 d3, .int .i64 d4, .int .i64 d5]) := by rw [ha]; exact putSel_on (e := (4, 22, .agg #[.int .i64 x, .int .i64 y, .int .i64 d0, .int .i64 d1, .int .i64 d2, .int .i64 d3, .int .i64 d4, .int .i64 d5])) 2 rfl rfl (hon 4 (by kernel_rfl)) rfl
            have e20 : a.tmps[20]? = some (.bool true) := by rw [ha]; exact (putSel_off rfl).trans rfl
            replace ha := Aside0.mk ha
            have HB := Aside0.mk Q_HB
            have B0 := Aside0.mk Q_B0
            have Y0 := Aside0.mk (Q_Y0 (hoff 12 (by kernel_rfl)))
            have Z1 := Aside0.mk Q_Z1
            refine goes_ Tryd.func29 (by kernel_rfl) rfl #[.slice A0 l0.length c0, .agg #[.int .i64 x, .int .i64 y, .int .i64 d0, .int .i64 d1, .int .i64 d2, .int .i64 d3, .int .i64 d4, .int .i64 d5]] (wanted_on rfl rfl rfl (e20.trans (by first | rfl | (simp [*]; done)))) rfl rfl (by first | (simp only [List.map_toArray, List.map_cons, List.map_nil, Act.eval, Array.getD_eq_getD_getElem?, Option.getD_some, e21, e22, e20]; done) | (simp only [List.map_toArray, List.map_cons, List.map_nil, Act.eval, Array.getD_eq_getD_getElem?, Option.getD_some, e21, e22, e20]; rfl)) ?_
            with_reducible refine (QBo.impl_grid_matches.calls A0 c0 l0 x y d0 d1 d2 d3 d4 d5 true _ (Kd.C_below HR.out HB.out) HC.out H5.out).mono ?_
            rintro e' w1 ⟨rfl, hd⟩
            refine ⟨_, rfl, ?_⟩
            refine hK.out _ _ ⟨(by rw [ha.out]; exact putSel_upk 3 hb_ rfl rfl rfl), below_then HB.out HB.out.size hd, blk_below B0.out hd, fun _ => blk_below Y0.out hd, fun h0_ => absurd ((hoff 12 (by kernel_rfl)).symm.trans h0_) (by decide), ⟨blk_below Z1.out.1 hd, Z1.out.2⟩⟩
          refine steps_cons ?_ ?_
          · rintro b a w' ⟨ha, Q_HB, Q_B0, Q_Y0, Q_Y1, Q_Z1⟩ hb_ hon hoff
            refine ⟨_, rfl, fun K hK => ?_⟩
            have e20 : a.tmps[20]? = some (.bool true) := by rw [ha]; exact (putSel_off rfl).trans rfl
            have e23 : a.tmps[23]? = some (.bool true) := by rw [ha]; exact putSel_on (e := (5, 23, .bool true)) 3 rfl rfl (hon 5 (by kernel_rfl)) rfl
            replace ha := Aside0.mk ha
            have HB := Aside0.mk Q_HB
            have B0 := Aside0.mk Q_B0
            have Y0 := Aside0.mk (Q_Y0 (hoff 12 (by kernel_rfl)))
            have Z1 := Aside0.mk Q_Z1
            refine value_ (w1 := w') (v := .bool true) (by rfl) rfl ?_ ?_
            · go_simp
              (try simp only [i64_w])
              try rfl
            refine hK.out _ _ ⟨(by rw [ha.out]; exact putSel_upk 4 hb_ rfl rfl rfl), Q_HB, Q_B0, Q_Y0, fun h0_ => absurd ((hoff 12 (by kernel_rfl)).symm.trans h0_) (by decide), Q_Z1⟩
          refine steps_cons ?_ ?_
          · rintro b a w' ⟨ha, Q_HB, Q_B0, Q_Y0, Q_Y1, Q_Z1⟩ hb_ hon hoff
            refine ⟨_, rfl, fun K hK => ?_⟩
            have e24 : a.tmps[24]? = some (.bool true) := by rw [ha]; exact putSel_on (e := (6, 24, .bool true)) 4 rfl rfl (hon 6 (by kernel_rfl)) rfl
            replace ha := Aside0.mk ha
            have HB := Aside0.mk Q_HB
            have B0 := Aside0.mk Q_B0
            have Y0 := Aside0.mk (Q_Y0 (hoff 12 (by kernel_rfl)))
            have Z1 := Aside0.mk Q_Z1
            refine value_ (w1 := w') (v := .bool true) (by rfl) rfl ?_ ?_
            · go_simp
              (try simp only [i64_w])
              try rfl
            refine hK.out _ _ ⟨(by rw [ha.out]; exact putSel_upk 5 hb_ rfl rfl rfl), Q_HB, Q_B0, Q_Y0, fun h0_ => absurd ((hoff 12 (by kernel_rfl)).symm.trans h0_) (by decide), Q_Z1⟩
          refine steps_cons ?_ ?_
          · rintro b a w' ⟨ha, Q_HB, Q_B0, Q_Y0, Q_Y1, Q_Z1⟩ hb_ hon hoff
            refine ⟨_, rfl, fun K hK => ?_⟩
            have e0 : a.tmps[0]? = some (.slice A0 l0.length c0) := by rw [ha]; exact (putSel_off rfl).trans rfl
            have e25 : a.tmps[25]? = some (.bool true) := by rw [ha]; exact putSel_on (e := (7, 25, .bool true)) 5 rfl rfl (hon 7 (by kernel_rfl)) rfl
            replace ha := Aside0.mk ha
            have HB := Aside0.mk Q_HB
            have B0 := Aside0.mk Q_B0
            have Y0 := Aside0.mk (Q_Y0 (hoff 12 (by kernel_rfl)))
            have Z1 := Aside0.mk Q_Z1
            refine value_ (w1 := w') (v := .slice A0 l0.length c0) (wanted_on rfl rfl rfl (e25.trans (by first | rfl | (simp [*]; done)))) rfl ?_ ?_
            · go_simp
              (try simp only [i64_w])
              try rfl
            refine hK.out _ _ ⟨(by rw [ha.out]; exact putSel_upk 6 hb_ rfl rfl rfl), Q_HB, Q_B0, Q_Y0, fun h0_ => absurd ((hoff 12 (by kernel_rfl)).symm.trans h0_) (by decide), Q_Z1⟩
          refine steps_cons ?_ ?_
          · rintro b a w' ⟨ha, Q_HB, Q_B0, Q_Y0, Q_Y1, Q_Z1⟩ hb_ hon hoff
            refine ⟨_, rfl, fun K hK => ?_⟩
            have e8 : a.tmps[8]? = some (.pointer (some ⟨g8_, 0, none⟩)) := by rw [ha]; exact (putSel_off rfl).trans rfl
            have e25 : a.tmps[25]? = some (.bool true) := by rw [ha]; exact putSel_on (e := (7, 25, .bool true)) 5 rfl rfl (hon 7 (by kernel_rfl)) rfl
            replace ha := Aside0.mk ha
            have HB := Aside0.mk Q_HB
            have B0 := Aside0.mk Q_B0
            have Y0 := Aside0.mk (Q_Y0 (hoff 12 (by kernel_rfl)))
            have Z1 := Aside0.mk Q_Z1
            have z0 : w'.cell? ⟨g8_, 0, none⟩ = some (.int .i64 r1) := blk_cell Z1.out.1 0
            have z1 : w'.cell? ⟨g8_, 1, none⟩ = some (.int .i64 r2) := blk_cell Z1.out.1 1
            have z2 : w'.cell? ⟨g8_, 2, none⟩ = some (.int .i64 r3) := blk_cell Z1.out.1 2
            have z3 : w'.cell? ⟨g8_, 3, none⟩ = some (.int .i64 r4) := blk_cell Z1.out.1 3
            have z4 : w'.cell? ⟨g8_, 4, none⟩ = some (.int .i64 r5) := blk_cell Z1.out.1 4
            have z5 : w'.cell? ⟨g8_, 5, none⟩ = some (.int .i64 r6) := blk_cell Z1.out.1 5
            have z6 : w'.cell? ⟨g8_, 6, none⟩ = some (.int .i64 r7) := blk_cell Z1.out.1 6
            have z7 : w'.cell? ⟨g8_, 7, none⟩ = some (.int .i64 r8) := blk_cell Z1.out.1 7
            refine value_ (w1 := w') (v := .agg #[.int .i64 r1, .int .i64 r2, .int .i64 r3, .int .i64 r4, .int .i64 r5, .int .i64 r6, .int .i64 r7, .int .i64 r8]) (wanted_on rfl rfl rfl (e25.trans (by first | rfl | (simp [*]; done)))) rfl ?_ ?_
            · go_simp
              (try simp only [i64_w])
              try rfl
            refine hK.out _ _ ⟨(by rw [ha.out]; exact putSel_upk 7 hb_ rfl rfl rfl), Q_HB, Q_B0, Q_Y0, fun h0_ => absurd ((hoff 12 (by kernel_rfl)).symm.trans h0_) (by decide), Q_Z1⟩
          refine steps_cons ?_ ?_
          · rintro b a w' ⟨ha, Q_HB, Q_B0, Q_Y0, Q_Y1, Q_Z1⟩ hb_ hon hoff
            refine ⟨_, rfl, fun K hK => ?_⟩
            have e26 : a.tmps[26]? = some (.slice A0 l0.length c0) := by rw [ha]; exact putSel_on (e := (8, 26, .slice A0 l0.length c0)) 6 rfl rfl (hon 8 (by kernel_rfl)) rfl
            have e27 : a.tmps[27]? = some (.agg #[.int .i64 r1, .int .i64 r2, .int .i64 r3, .int .i64 r4, .int .i64 r5, .int .i64 r6, .int .i64 r7, .int .i64 r8]) := by rw [ha]; exact putSel_on (e := (9, 27, .agg #[.int .i64 r1, .int .i64 r2, .int .i64 r3, .int .i64 r4, .int .i64 r5, .int .i64 r6, .int .i64 r7, .int .i64 r8])) 7 rfl rfl (hon 9 (by kernel_rfl)) rfl
            have e25 : a.tmps[25]? = some (.bool true) := by rw [ha]; exact putSel_on (e := (7, 25, .bool true)) 5 rfl rfl (hon 7 (by kernel_rfl)) rfl
            replace ha := Aside0.mk ha
            have HB := Aside0.mk Q_HB
            have B0 := Aside0.mk Q_B0
            have Y0 := Aside0.mk (Q_Y0 (hoff 12 (by kernel_rfl)))
            have Z1 := Aside0.mk Q_Z1
            refine goes_ Tryd.func29 (by kernel_rfl) rfl #[.slice A0 l0.length c0, .agg #[.int .i64 r1, .int .i64 r2, .int .i64 r3, .int .i64 r4, .int .i64 r5, .int .i64 r6, .int .i64 r7, .int .i64 r8]] (wanted_on rfl rfl rfl (e25.trans (by first | rfl | (simp [*]; done)))) rfl rfl (by first | (simp only [List.map_toArray, List.map_cons, List.map_nil, Act.eval, Array.getD_eq_getD_getElem?, Option.getD_some, e26, e27, e25]; done) | (simp only [List.map_toArray, List.map_cons, List.map_nil, Act.eval, Array.getD_eq_getD_getElem?, Option.getD_some, e26, e27, e25]; rfl)) ?_
            with_reducible refine (QBo.impl_grid_matches.calls A0 c0 l0 r1 r2 r3 r4 r5 r6 r7 r8 m2 _ (Kd.C_below HR.out HB.out) HC.out H7.out).mono ?_
            rintro e' w1 ⟨rfl, hd⟩
            refine ⟨_, rfl, ?_⟩
            refine hK.out _ _ ⟨(by rw [ha.out]; exact putSel_upk 8 hb_ rfl rfl rfl), below_then HB.out HB.out.size hd, blk_below B0.out hd, fun _ => blk_below Y0.out hd, fun h0_ => absurd ((hoff 12 (by kernel_rfl)).symm.trans h0_) (by decide), ⟨blk_below Z1.out.1 hd, Z1.out.2⟩⟩
          refine steps_cons ?_ ?_
          · rintro b a w' ⟨ha, Q_HB, Q_B0, Q_Y0, Q_Y1, Q_Z1⟩ hb_ hon hoff
            refine ⟨_, rfl, fun K hK => ?_⟩
            have e25 : a.tmps[25]? = some (.bool true) := by rw [ha]; exact putSel_on (e := (7, 25, .bool true)) 5 rfl rfl (hon 7 (by kernel_rfl)) rfl
            have e28 : a.tmps[28]? = some (.bool m2) := by rw [ha]; exact putSel_on (e := (10, 28, .bool m2)) 8 rfl rfl (hon 10 (by kernel_rfl)) rfl
            replace ha := Aside0.mk ha
            have HB := Aside0.mk Q_HB
            have B0 := Aside0.mk Q_B0
            have Z1 := Aside0.mk Q_Z1
            refine value_ (w1 := w') (v := .bool m2) (by rfl) rfl ?_ ?_
            · go_simp
              (try simp only [i64_w])
              try rfl
            refine hK.out _ _ ⟨(by rw [ha.out]; exact putSel_upk 9 hb_ rfl rfl rfl), Q_HB, Q_B0, Q_Y0, Q_Y1, Q_Z1⟩
          refine steps_cons ?_ ?_
          · rintro b a w' ⟨ha, Q_HB, Q_B0, Q_Y0, Q_Y1, Q_Z1⟩ hb_ hon hoff
            refine ⟨_, rfl, fun K hK => ?_⟩
            have e6 : a.tmps[6]? = some (.pointer (some ⟨w.heap.size + 1, 0, none⟩)) := by rw [ha]; exact (putSel_off rfl).trans rfl
            have e18 : a.tmps[18]? = some (.agg #[.int .i64 r1, .int .i64 r2, .int .i64 r3, .int .i64 r4, .int .i64 r5, .int .i64 r6, .int .i64 r7, .int .i64 r8]) := by rw [ha]; exact putSel_on (e := (0, 18, .agg #[.int .i64 r1, .int .i64 r2, .int .i64 r3, .int .i64 r4, .int .i64 r5, .int .i64 r6, .int .i64 r7, .int .i64 r8])) 0 rfl rfl (hon 0 (by kernel_rfl)) rfl
            replace ha := Aside0.mk ha
            have HB := Aside0.mk Q_HB
            have B0 := Aside0.mk Q_B0
            have Y0 := Aside0.mk (Q_Y0 hb_)
            have Z1 := Aside0.mk Q_Z1
            have y0 : w'.cell? ⟨(w.heap.size + 1), 0, none⟩ = some (.int .i64 0) := blk_cell Y0.out 0
            have y1 : w'.cell? ⟨(w.heap.size + 1), 1, none⟩ = some (.int .i64 0) := blk_cell Y0.out 1
            have y2 : w'.cell? ⟨(w.heap.size + 1), 2, none⟩ = some (.int .i64 0) := blk_cell Y0.out 2
            have y3 : w'.cell? ⟨(w.heap.size + 1), 3, none⟩ = some (.int .i64 0) := blk_cell Y0.out 3
            have y4 : w'.cell? ⟨(w.heap.size + 1), 4, none⟩ = some (.int .i64 0) := blk_cell Y0.out 4
            have y5 : w'.cell? ⟨(w.heap.size + 1), 5, none⟩ = some (.int .i64 0) := blk_cell Y0.out 5
            have y6 : w'.cell? ⟨(w.heap.size + 1), 6, none⟩ = some (.int .i64 0) := blk_cell Y0.out 6
            have y7 : w'.cell? ⟨(w.heap.size + 1), 7, none⟩ = some (.int .i64 0) := blk_cell Y0.out 7
            have yf0 := blk_frozen Y0.out 0
            have yf1 := blk_frozen Y0.out 1
            have yf2 := blk_frozen Y0.out 2
            have yf3 := blk_frozen Y0.out 3
            have yf4 := blk_frozen Y0.out 4
            have yf5 := blk_frozen Y0.out 5
            have yf6 := blk_frozen Y0.out 6
            have yf7 := blk_frozen Y0.out 7
            have hg8 := Z1.out.2
            have hn0 : w.heap.size ≠ w.heap.size + 1 := by omega
            have hn1 : g8_ ≠ w.heap.size + 1 := by omega
            refine skip_ (w1 := ?_) (by rfl) rfl ?_ ?_
            rotate_left
            · go_simp
              rfl
            refine hK.out _ _ ⟨(by rw [ha.out]; exact putSel_none (v := undef) rfl), (below_set (below_set (below_set (below_set (below_set (below_set (below_set (below_set HB.out (by omega)) (by omega)) (by omega)) (by omega)) (by omega)) (by omega)) (by omega)) (by omega)), (blk_far (blk_far (blk_far (blk_far (blk_far (blk_far (blk_far (blk_far B0.out hn0 _) hn0 _) hn0 _) hn0 _) hn0 _) hn0 _) hn0 _) hn0 _), fun h0_ => absurd ((up_self b 12).symm.trans h0_) (by decide), fun _ => (blk_put (cs := c8 r1 r2 r3 r4 r5 r6 r7 0) (blk_put (cs := c8 r1 r2 r3 r4 r5 r6 0 0) (blk_put (cs := c8 r1 r2 r3 r4 r5 0 0 0) (blk_put (cs := c8 r1 r2 r3 r4 0 0 0 0) (blk_put (cs := c8 r1 r2 r3 0 0 0 0 0) (blk_put (cs := c8 r1 r2 0 0 0 0 0 0) (blk_put (cs := c8 r1 0 0 0 0 0 0 0) (blk_put (cs := c8 0 0 0 0 0 0 0 0) Y0.out 0 _ rfl) 1 _ rfl) 2 _ rfl) 3 _ rfl) 4 _ rfl) 5 _ rfl) 6 _ rfl) 7 _ rfl), ⟨(blk_far (blk_far (blk_far (blk_far (blk_far (blk_far (blk_far (blk_far Z1.out.1 hn1 _) hn1 _) hn1 _) hn1 _) hn1 _) hn1 _) hn1 _) hn1 _), hg8⟩⟩
          refine steps_cons ?_ ?_
          · rintro b a w' ⟨ha, Q_HB, Q_B0, Q_Y0, Q_Y1, Q_Z1⟩ hb_ hon hoff
            refine ⟨_, rfl, fun K hK => ?_⟩
            have e29 : a.tmps[29]? = some (.bool m2) := by rw [ha]; exact putSel_on (e := (11, 29, .bool m2)) 9 rfl rfl (hon 11 (by kernel_rfl)) rfl
            replace ha := Aside0.mk ha
            have HB := Aside0.mk Q_HB
            have B0 := Aside0.mk Q_B0
            have Y1 := Aside0.mk (Q_Y1 (hon 12 (by kernel_rfl)))
            have Z1 := Aside0.mk Q_Z1
            refine value_ (w1 := w') (v := .bool m2) (by rfl) rfl ?_ ?_
            · go_simp
              (try simp only [i64_w])
              try rfl
            refine hK.out _ _ ⟨(by rw [ha.out]; exact putSel_upk 10 hb_ rfl rfl rfl), Q_HB, Q_B0, fun h0_ => absurd ((hon 12 (by kernel_rfl)).symm.trans h0_) (by decide), Q_Y1, Q_Z1⟩
          exact steps_nil
        · rintro b a w' hall ⟨ha, Q_HB, Q_B0, Q_Y0, Q_Y1, Q_Z1⟩
          clear B0 HB Y0 Z1
          have hb0_ := hall 0 (by kernel_rfl)
          have hb3_ := hall 3 (by kernel_rfl)
          have hb4_ := hall 4 (by kernel_rfl)
          have hb5_ := hall 5 (by kernel_rfl)
          have hb6_ := hall 6 (by kernel_rfl)
          have hb7_ := hall 7 (by kernel_rfl)
          have hb8_ := hall 8 (by kernel_rfl)
          have hb9_ := hall 9 (by kernel_rfl)
          have hb10_ := hall 10 (by kernel_rfl)
          have hb11_ := hall 11 (by kernel_rfl)
          have hb12_ := hall 12 (by kernel_rfl)
          have hb13_ := hall 13 (by kernel_rfl)
          subst ha
          simp only [putSel, hb0_, hb3_, hb4_, hb5_, hb6_, hb7_, hb8_, hb9_, hb10_, hb11_, hb12_, hb13_, if_true, Act.put, List.setIfInBounds_toArray, List.set_cons_zero, List.set_cons_succ]
          have HB := Aside0.mk Q_HB
          clear Q_HB
          have B0 := Aside0.mk Q_B0
          clear Q_B0
          clear Q_Y0
          have Y1 := Aside0.mk (Q_Y1 hb12_)
          clear Q_Y1
          have Z1 := Aside0.mk Q_Z1
          clear Q_Z1
          clear hall hb0_ hb3_ hb4_ hb5_ hb6_ hb7_ hb8_ hb9_ hb10_ hb11_ hb12_ hb13_
          go_wp2_with fail
          refine bodyPost_ret (results_ct rfl _ _ (w.heap.size + 1) 30 (c8 r1 r2 r3 r4 r5 r6 r7 r8) (0, 0) _ rfl Y1.out Tryd.underlying30 rfl (by kernel_rfl)) rfl ?_
          exact ⟨by simp, HB.out⟩

def says (l0 : List ByteArray) (x y d0 d1 d2 d3 d4 d5 a2 : Int) : Option (Int × Int × Int × Int × Int × Int × Int × Int × Bool) :=
  (Floor.says l0).bind fun fl => (GridRoll.says fl x y d0 d1 d2 d3 d4 d5 a2).bind fun r => if r.2.2.2.2.2.2.2.2 = true then
    (QBo.impl_grid_matches.f l0 x y d0 d1 d2 d3 d4 d5).bind fun m1 => if m1 = true then
      (QBo.impl_grid_matches.f l0 r.1 r.2.1 r.2.2.1 r.2.2.2.1 r.2.2.2.2.1 r.2.2.2.2.2.1 r.2.2.2.2.2.2.1 r.2.2.2.2.2.2.2.1).bind fun m2 => some (r.1, r.2.1, r.2.2.1, r.2.2.2.1, r.2.2.2.2.1, r.2.2.2.2.2.1, r.2.2.2.2.2.2.1, r.2.2.2.2.2.2.2.1, m2)
    else some (r.1, r.2.1, r.2.2.1, r.2.2.2.1, r.2.2.2.2.1, r.2.2.2.2.2.1, r.2.2.2.2.2.2.1, r.2.2.2.2.2.2.2.1, false)
  else some (r.1, r.2.1, r.2.2.1, r.2.2.2.1, r.2.2.2.2.1, r.2.2.2.2.2.1, r.2.2.2.2.2.2.1, r.2.2.2.2.2.2.2.1, false)
theorem says_calls (A0 : Option Addr) (c0 : Nat) (l0 : List ByteArray) (x y d0 d1 d2 d3 d4 d5 a2 r1 r2 r3 r4 r5 r6 r7 r8 : Int) (r9 : Bool) (w : World) (hr0 : Kd.C Kd.string w A0 l0.length l0) (hc0 : l0.length ≤ c0) (h : says l0 x y d0 d1 d2 d3 d4 d5 a2 = some (r1, r2, r3, r4, r5, r6, r7, r8, r9)) :
    Calls Tryd.prog 30 #[.slice A0 l0.length c0, .agg (c8 x y d0 d1 d2 d3 d4 d5), .int .u8 a2] w fun e' w' => e' = .returned (.tuple #[.agg (c8 r1 r2 r3 r4 r5 r6 r7 r8), .bool r9]) ∧ Below w.heap.size w w' := by
  unfold says at h
  obtain ⟨fl, h1, h⟩ := Option.bind_eq_some_iff.mp h
  obtain ⟨⟨q1, q2, q3, q4, q5, q6, q7, q8, q⟩, h2, h⟩ := Option.bind_eq_some_iff.mp h
  cases q with
  | false =>
    simp only [Bool.false_eq_true, if_false, Option.some.injEq, Prod.mk.injEq] at h
    obtain ⟨rfl, rfl, rfl, rfl, rfl, rfl, rfl, rfl, rfl⟩ := h
    exact over_walk A0 c0 l0 fl x y d0 d1 d2 d3 d4 d5 a2 q1 q2 q3 q4 q5 q6 q7 q8 false false false w hr0 hc0 h1 h2 (fun h => by cases h) (fun h => by cases h)
  | true =>
    simp only [if_true] at h
    obtain ⟨m1, h3, h⟩ := Option.bind_eq_some_iff.mp h
    cases m1 with
    | false =>
      simp only [Bool.false_eq_true, if_false, Option.some.injEq, Prod.mk.injEq] at h
      obtain ⟨rfl, rfl, rfl, rfl, rfl, rfl, rfl, rfl, rfl⟩ := h
      exact over_walk A0 c0 l0 fl x y d0 d1 d2 d3 d4 d5 a2 q1 q2 q3 q4 q5 q6 q7 q8 true false false w hr0 hc0 h1 h2 (fun _ => h3) (fun _ h => by cases h)
    | true =>
      simp only [if_true] at h
      obtain ⟨m2, h4, h⟩ := Option.bind_eq_some_iff.mp h
      simp only [Option.some.injEq, Prod.mk.injEq] at h
      obtain ⟨rfl, rfl, rfl, rfl, rfl, rfl, rfl, rfl, rfl⟩ := h
      have := over_walk A0 c0 l0 fl x y d0 d1 d2 d3 d4 d5 a2 q1 q2 q3 q4 q5 q6 q7 q8 true true m2 w hr0 hc0 h1 h2 (fun _ => h3) (fun _ _ => h4)
      simpa using this
end Go.Proofs.YtolopkjpodnmkaaDoor.Over
