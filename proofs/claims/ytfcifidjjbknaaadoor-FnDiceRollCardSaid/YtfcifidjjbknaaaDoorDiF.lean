/- The reference's small calls on dice and rows of faces: diOf, diFaces, diLess. Conditions: six numbers. -/
import Derived.Test.YtfcifidjjbknaaaDoorWOne
import Derived.Test.YtfcifidjjbknaaaDoorRows
import Derived.OwnWalk
import Derived.Lib.Hide
import Derived.Deep.QuietTactic
import Derived.BigQuiet
namespace Go.Proofs.YtfcifidjjbknaaaDoor.DiF
open Go.RowKit Go.Proofs.YtfcifidjjbknaaaDoorW.PrintWords Go.Proofs.YtfcifidjjbknaaaDoorW.PrintLast
set_option linter.unusedVariables false
set_option linter.unusedSimpArgs false

abbrev six (a b c d e f : Int) : Array Value := #[.int .i64 a, .int .i64 b, .int .i64 c, .int .i64 d, .int .i64 e, .int .i64 f]
def dof.T1 : Bool × List (List Nat × List Nat) := (true, [([], []), ([0], [0]), ([1], [1]), ([], []), ([3], [3]), ([4], [4]), ([], []), ([6], [6]), ([7], [7]), ([], []), ([9], [9]), ([10], [10]), ([], []), ([12], [12]), ([13], [13]), ([], []), ([15], [15]), ([16], [16]), ([2, 5, 8, 11, 14, 17], [2, 5, 8, 11, 14, 17]), ([18, 0, 1, 2, 3, 4, 5, 6, 7, 8, 9, 10, 11, 12, 13, 14, 15, 16, 17, 18], [18])])
def dof.B1 : List Nat := [0, 1, 3, 0, 8, 24, 0, 64, 192, 0, 512, 1536, 0, 4096, 12288, 0, 32768, 98304, 262143, 524287]
theorem dof.tab1 : rtab .any (opsOf Tryd.f44 1) = dof.T1 := by kernel_rfl
theorem dof.bits1 : waitsOk dof.T1.2 dof.B1 = true := by kernel_rfl
def dls.T1 : Bool × List (List Nat × List Nat) := (true, [([], []), ([0], [0]), ([], []), ([2, 1], [2]), ([1, 3, 0, 1], [1]), ([3, 4, 0, 1, 2, 3, 4], [3])])
def dls.B1 : List Nat := [0, 1, 0, 7, 15, 31]
theorem dls.tab1 : rtab .any (opsOf Tryd.f69 1) = dls.T1 := by kernel_rfl
theorem dls.bits1 : waitsOk dls.T1.2 dls.B1 = true := by kernel_rfl
set_option maxHeartbeats 4000000 in
set_option maxRecDepth 100000 in
theorem of_walk (g c : Nat) (x0 x1 x2 x3 x4 x5 : Int) (W : World) (h0 : W.cell? ⟨g, 0, none⟩ = some (.int .i64 x0)) (h1 : W.cell? ⟨g, 1, none⟩ = some (.int .i64 x1)) (h2 : W.cell? ⟨g, 2, none⟩ = some (.int .i64 x2)) (h3 : W.cell? ⟨g, 3, none⟩ = some (.int .i64 x3)) (h4 : W.cell? ⟨g, 4, none⟩ = some (.int .i64 x4)) (h5 : W.cell? ⟨g, 5, none⟩ = some (.int .i64 x5)) :
    Calls Tryd.prog 44 #[.slice (some ⟨g, 0, none⟩) 6 c] W fun e w' => e = .returned (.agg (six x0 x1 x2 x3 x4 x5)) ∧ Below W.heap.size W w' := by
  have H0 := Go.Lib.hid h0
  have H1 := Go.Lib.hid h1
  have H2 := Go.Lib.hid h2
  have H3 := Go.Lib.hid h3
  have H4 := Go.Lib.hid h4
  have H5 := Go.Lib.hid h5
  clear h0 h1 h2 h3 h4 h5
  go_enter Tryd.func44, Tryd.ntmps44
  go_upto_region 1 with fail
  have G0 := Go.Lib.hid (blk_new W (.cells #[.int .i64 0, .int .i64 0, .int .i64 0, .int .i64 0, .int .i64 0, .int .i64 0] 25))
  have HB := Go.Lib.hid (show Below W.heap.size W (W.alloc (.cells #[.int .i64 0, .int .i64 0, .int .i64 0, .int .i64 0, .int .i64 0, .int .i64 0] 25)) from (Below.refl _ W).alloc (Nat.le_refl _) _)
  generalize World.alloc _ _ = w1 at HB G0 ⊢
  refine start_ (n := 20) (S := fun w' => True) (ds := []) #[false, false, false, false, false, false, false, false, false, false, false, false, false, false, false, false, false, false, false, false] (by kernel_rfl) rfl rfl trivial (fun hHeld => ?_)
  refine with_tabW dof.tab1 dof.bits1 (fun HT_ HW_ => ?_)
  have n_HB := Go.Lib.hid (below_drew HB.out)
  have n_G0 := Go.Lib.hid (blk_drew G0.out)
  clear HB G0
  have HB := n_HB
  have G0 := n_G0
  clear n_HB n_G0
  generalize World.drew _ = w1_ at HB G0 hHeld ⊢
  refine pure_ (i := 0) (N := some 3) (v := ?_) (a' := ?_) #[true, false, false, false, false, false, false, false, false, false, false, false, false, false, false, false, false, false, false, false] rfl rfl (any_of HT_.out (by kernel_rfl)) (fun _ _ _ h => h) (Or.inl ⟨by rfl, ?_⟩) ?_ ?_
  rotate_left
  · intro w'
    go_simp
    with_reducible rfl
  rotate_left
  · simp only [Act.put, List.setIfInBounds_toArray, List.set_cons_zero, List.set_cons_succ, i64_w, i32_w]
    rfl
  refine pure_ (i := 1) (N := some 4) (v := ?_) (a' := ?_) #[true, true, false, false, false, false, false, false, false, false, false, false, false, false, false, false, false, false, false, false] rfl rfl (any_of HT_.out (by kernel_rfl)) (fun _ _ _ h => h) (Or.inl ⟨by rfl, ?_⟩) ?_ ?_
  rotate_left
  · intro w'
    go_simp
    with_reducible rfl
  rotate_left
  · simp only [Act.put, List.setIfInBounds_toArray, List.set_cons_zero, List.set_cons_succ, i64_w, i32_w]
    rfl
  refine pure_ (i := 3) (N := some 6) (v := ?_) (a' := ?_) #[true, true, false, true, false, false, false, false, false, false, false, false, false, false, false, false, false, false, false, false] rfl rfl (any_of HT_.out (by kernel_rfl)) (fun _ _ _ h => h) (Or.inl ⟨by rfl, ?_⟩) ?_ ?_
  rotate_left
  · intro w'
    go_simp
    with_reducible rfl
  rotate_left
  · simp only [Act.put, List.setIfInBounds_toArray, List.set_cons_zero, List.set_cons_succ, i64_w, i32_w]
    rfl
  refine pure_ (i := 4) (N := some 7) (v := ?_) (a' := ?_) #[true, true, false, true, true, false, false, false, false, false, false, false, false, false, false, false, false, false, false, false] rfl rfl (any_of HT_.out (by kernel_rfl)) (fun _ _ _ h => h) (Or.inl ⟨by rfl, ?_⟩) ?_ ?_
  rotate_left
  · intro w'
    go_simp
    with_reducible rfl
  rotate_left
  · simp only [Act.put, List.setIfInBounds_toArray, List.set_cons_zero, List.set_cons_succ, i64_w, i32_w]
    rfl
  refine pure_ (i := 6) (N := some 9) (v := ?_) (a' := ?_) #[true, true, false, true, true, false, true, false, false, false, false, false, false, false, false, false, false, false, false, false] rfl rfl (any_of HT_.out (by kernel_rfl)) (fun _ _ _ h => h) (Or.inl ⟨by rfl, ?_⟩) ?_ ?_
  rotate_left
  · intro w'
    go_simp
    with_reducible rfl
  rotate_left
  · simp only [Act.put, List.setIfInBounds_toArray, List.set_cons_zero, List.set_cons_succ, i64_w, i32_w]
    rfl
  refine pure_ (i := 7) (N := some 10) (v := ?_) (a' := ?_) #[true, true, false, true, true, false, true, true, false, false, false, false, false, false, false, false, false, false, false, false] rfl rfl (any_of HT_.out (by kernel_rfl)) (fun _ _ _ h => h) (Or.inl ⟨by rfl, ?_⟩) ?_ ?_
  rotate_left
  · intro w'
    go_simp
    with_reducible rfl
  rotate_left
  · simp only [Act.put, List.setIfInBounds_toArray, List.set_cons_zero, List.set_cons_succ, i64_w, i32_w]
    rfl
  refine pure_ (i := 9) (N := some 12) (v := ?_) (a' := ?_) #[true, true, false, true, true, false, true, true, false, true, false, false, false, false, false, false, false, false, false, false] rfl rfl (any_of HT_.out (by kernel_rfl)) (fun _ _ _ h => h) (Or.inl ⟨by rfl, ?_⟩) ?_ ?_
  rotate_left
  · intro w'
    go_simp
    with_reducible rfl
  rotate_left
  · simp only [Act.put, List.setIfInBounds_toArray, List.set_cons_zero, List.set_cons_succ, i64_w, i32_w]
    rfl
  refine pure_ (i := 10) (N := some 13) (v := ?_) (a' := ?_) #[true, true, false, true, true, false, true, true, false, true, true, false, false, false, false, false, false, false, false, false] rfl rfl (any_of HT_.out (by kernel_rfl)) (fun _ _ _ h => h) (Or.inl ⟨by rfl, ?_⟩) ?_ ?_
  rotate_left
  · intro w'
    go_simp
    with_reducible rfl
  rotate_left
  · simp only [Act.put, List.setIfInBounds_toArray, List.set_cons_zero, List.set_cons_succ, i64_w, i32_w]
    rfl
  refine pure_ (i := 12) (N := some 15) (v := ?_) (a' := ?_) #[true, true, false, true, true, false, true, true, false, true, true, false, true, false, false, false, false, false, false, false] rfl rfl (any_of HT_.out (by kernel_rfl)) (fun _ _ _ h => h) (Or.inl ⟨by rfl, ?_⟩) ?_ ?_
  rotate_left
  · intro w'
    go_simp
    with_reducible rfl
  rotate_left
  · simp only [Act.put, List.setIfInBounds_toArray, List.set_cons_zero, List.set_cons_succ, i64_w, i32_w]
    rfl
  refine pure_ (i := 13) (N := some 16) (v := ?_) (a' := ?_) #[true, true, false, true, true, false, true, true, false, true, true, false, true, true, false, false, false, false, false, false] rfl rfl (any_of HT_.out (by kernel_rfl)) (fun _ _ _ h => h) (Or.inl ⟨by rfl, ?_⟩) ?_ ?_
  rotate_left
  · intro w'
    go_simp
    with_reducible rfl
  rotate_left
  · simp only [Act.put, List.setIfInBounds_toArray, List.set_cons_zero, List.set_cons_succ, i64_w, i32_w]
    rfl
  refine pure_ (i := 15) (N := some 18) (v := ?_) (a' := ?_) #[true, true, false, true, true, false, true, true, false, true, true, false, true, true, false, true, false, false, false, false] rfl rfl (any_of HT_.out (by kernel_rfl)) (fun _ _ _ h => h) (Or.inl ⟨by rfl, ?_⟩) ?_ ?_
  rotate_left
  · intro w'
    go_simp
    with_reducible rfl
  rotate_left
  · simp only [Act.put, List.setIfInBounds_toArray, List.set_cons_zero, List.set_cons_succ, i64_w, i32_w]
    rfl
  refine pure_ (i := 16) (N := some 19) (v := ?_) (a' := ?_) #[true, true, false, true, true, false, true, true, false, true, true, false, true, true, false, true, true, false, false, false] rfl rfl (any_of HT_.out (by kernel_rfl)) (fun _ _ _ h => h) (Or.inl ⟨by rfl, ?_⟩) ?_ ?_
  rotate_left
  · intro w'
    go_simp
    with_reducible rfl
  rotate_left
  · simp only [Act.put, List.setIfInBounds_toArray, List.set_cons_zero, List.set_cons_succ, i64_w, i32_w]
    rfl
  refine inv_at [2, 5, 8, 11, 14, 17, 18, 19] (fun a0_ b a w' => a = putSel a0_ b [(2, 5, .int .i64 x0), (5, 8, .int .i64 x1), (8, 11, .int .i64 x2), (11, 14, .int .i64 x3), (14, 17, .int .i64 x4), (17, 20, .int .i64 x5), (18, 21, .agg #[.int .i64 x0, .int .i64 x1, .int .i64 x2, .int .i64 x3, .int .i64 x4, .int .i64 x5])] ∧ (Below W.heap.size W w') ∧ (b 19 = false → w'.heap[W.heap.size]? = some (.cells #[.int .i64 0, .int .i64 0, .int .i64 0, .int .i64 0, .int .i64 0, .int .i64 0] 25 (0, 0))) ∧ (b 19 = true → w'.heap[W.heap.size]? = some (.cells #[.int .i64 x0, .int .i64 x1, .int .i64 x2, .int .i64 x3, .int .i64 x4, .int .i64 x5] 25 (0, 0)))) HT_.out HW_.out (by kernel_rfl) (by kernel_rfl) ?_ ?_ ?_
  · exact ⟨by simp only [putSel, Bool.false_eq_true, if_false], HB.out, fun _ => G0.out, fun h_ => absurd h_ (by decide)⟩
  · skip
    clear G0 HB
    refine steps_cons ?_ ?_
    · rintro b a w' ⟨ha, Q_HB, Q_G0, Q_G1⟩ hb_ hon hoff
      refine ⟨_, rfl, fun K hK => ?_⟩
      have e4 : a.tmps[4]? = some (.pointer (some ⟨g, 0, none⟩)) := by rw [ha]; exact (putSel_off rfl).trans rfl
      replace ha := Aside0.mk ha
      have HB := Aside0.mk Q_HB
      have G0 := Aside0.mk (Q_G0 (hoff 19 (by kernel_rfl)))
      have o0 : w'.cell? ⟨g, 0, none⟩ = some (.int .i64 x0) := pw_cell_below HB.out H0.out
      refine value_ (w1 := w') (v := .int .i64 x0) (by rfl) rfl ?_ ?_
      · go_simp
        (try simp only [i64_w])
        try rfl
      refine hK.out _ _ ⟨(by rw [ha.out]; exact putSel_upk 0 hb_ rfl rfl rfl), Q_HB, Q_G0, fun h0_ => absurd ((hoff 19 (by kernel_rfl)).symm.trans h0_) (by decide)⟩
    refine steps_cons ?_ ?_
    · rintro b a w' ⟨ha, Q_HB, Q_G0, Q_G1⟩ hb_ hon hoff
      refine ⟨_, rfl, fun K hK => ?_⟩
      have e7 : a.tmps[7]? = some (.pointer (some ⟨g, 1, none⟩)) := by rw [ha]; exact (putSel_off rfl).trans rfl
      replace ha := Aside0.mk ha
      have HB := Aside0.mk Q_HB
      have G0 := Aside0.mk (Q_G0 (hoff 19 (by kernel_rfl)))
      have o1 : w'.cell? ⟨g, 1, none⟩ = some (.int .i64 x1) := pw_cell_below HB.out H1.out
      refine value_ (w1 := w') (v := .int .i64 x1) (by rfl) rfl ?_ ?_
      · go_simp
        (try simp only [i64_w])
        try rfl
      refine hK.out _ _ ⟨(by rw [ha.out]; exact putSel_upk 1 hb_ rfl rfl rfl), Q_HB, Q_G0, fun h0_ => absurd ((hoff 19 (by kernel_rfl)).symm.trans h0_) (by decide)⟩
    refine steps_cons ?_ ?_
    · rintro b a w' ⟨ha, Q_HB, Q_G0, Q_G1⟩ hb_ hon hoff
      refine ⟨_, rfl, fun K hK => ?_⟩
      have e10 : a.tmps[10]? = some (.pointer (some ⟨g, 2, none⟩)) := by rw [ha]; exact (putSel_off rfl).trans rfl
      replace ha := Aside0.mk ha
      have HB := Aside0.mk Q_HB
      have G0 := Aside0.mk (Q_G0 (hoff 19 (by kernel_rfl)))
      have o2 : w'.cell? ⟨g, 2, none⟩ = some (.int .i64 x2) := pw_cell_below HB.out H2.out
      refine value_ (w1 := w') (v := .int .i64 x2) (by rfl) rfl ?_ ?_
      · go_simp
        (try simp only [i64_w])
        try rfl
      refine hK.out _ _ ⟨(by rw [ha.out]; exact putSel_upk 2 hb_ rfl rfl rfl), Q_HB, Q_G0, fun h0_ => absurd ((hoff 19 (by kernel_rfl)).symm.trans h0_) (by decide)⟩
    refine steps_cons ?_ ?_
    · rintro b a w' ⟨ha, Q_HB, Q_G0, Q_G1⟩ hb_ hon hoff
      refine ⟨_, rfl, fun K hK => ?_⟩
      have e13 : a.tmps[13]? = some (.pointer (some ⟨g, 3, none⟩)) := by rw [ha]; exact (putSel_off rfl).trans rfl
      replace ha := Aside0.mk ha
      have HB := Aside0.mk Q_HB
      have G0 := Aside0.mk (Q_G0 (hoff 19 (by kernel_rfl)))
      have o3 : w'.cell? ⟨g, 3, none⟩ = some (.int .i64 x3) := pw_cell_below HB.out H3.out
      refine value_ (w1 := w') (v := .int .i64 x3) (by rfl) rfl ?_ ?_
      · go_simp
        (try simp only [i64_w])
        try rfl
      refine hK.out _ _ ⟨(by rw [ha.out]; exact putSel_upk 3 hb_ rfl rfl rfl), Q_HB, Q_G0, fun h0_ => absurd ((hoff 19 (by kernel_rfl)).symm.trans h0_) (by decide)⟩
    refine steps_cons ?_ ?_
    · rintro b a w' ⟨ha, Q_HB, Q_G0, Q_G1⟩ hb_ hon hoff
      refine ⟨_, rfl, fun K hK => ?_⟩
      have e16 : a.tmps[16]? = some (.pointer (some ⟨g, 4, none⟩)) := by rw [ha]; exact (putSel_off rfl).trans rfl
      replace ha := Aside0.mk ha
      have HB := Aside0.mk Q_HB
      have G0 := Aside0.mk (Q_G0 (hoff 19 (by kernel_rfl)))
      have o4 : w'.cell? ⟨g, 4, none⟩ = some (.int .i64 x4) := pw_cell_below HB.out H4.out
      refine value_ (w1 := w') (v := .int .i64 x4) (by rfl) rfl ?_ ?_
      · go_simp
        (try simp only [i64_w])
        try rfl
      refine hK.out _ _ ⟨(by rw [ha.out]; exact putSel_upk 4 hb_ rfl rfl rfl), Q_HB, Q_G0, fun h0_ => absurd ((hoff 19 (by kernel_rfl)).symm.trans h0_) (by decide)⟩
    refine steps_cons ?_ ?_
    · rintro b a w' ⟨ha, Q_HB, Q_G0, Q_G1⟩ hb_ hon hoff
      refine ⟨_, rfl, fun K hK => ?_⟩
      have e19 : a.tmps[19]? = some (.pointer (some ⟨g, 5, none⟩)) := by rw [ha]; exact (putSel_off rfl).trans rfl
      replace ha := Aside0.mk ha
      have HB := Aside0.mk Q_HB
      have G0 := Aside0.mk (Q_G0 (hoff 19 (by kernel_rfl)))
      have o5 : w'.cell? ⟨g, 5, none⟩ = some (.int .i64 x5) := pw_cell_below HB.out H5.out
      refine value_ (w1 := w') (v := .int .i64 x5) (by rfl) rfl ?_ ?_
      · go_simp
        (try simp only [i64_w])
        try rfl
      refine hK.out _ _ ⟨(by rw [ha.out]; exact putSel_upk 5 hb_ rfl rfl rfl), Q_HB, Q_G0, fun h0_ => absurd ((hoff 19 (by kernel_rfl)).symm.trans h0_) (by decide)⟩
    refine steps_cons ?_ ?_
    · rintro b a w' ⟨ha, Q_HB, Q_G0, Q_G1⟩ hb_ hon hoff
      refine ⟨_, rfl, fun K hK => ?_⟩
      have e5 : a.tmps[5]? = some (.int .i64 x0) := by rw [ha]; exact putSel_on (e := (2, 5, .int .i64 x0)) 0 rfl rfl (hon 2 (by kernel_rfl)) rfl
      have e8 : a.tmps[8]? = some (.int .i64 x1) := by rw [ha]; exact putSel_on (e := (5, 8, .int .i64 x1)) 1 rfl rfl (hon 5 (by kernel_rfl)) rfl
      have e11 : a.tmps[11]? = some (.int .i64 x2) := by rw [ha]; exact putSel_on (e := (8, 11, .int .i64 x2)) 2 rfl rfl (hon 8 (by kernel_rfl)) rfl
      have e14 : a.tmps[14]? = some (.int .i64 x3) := by rw [ha]; exact putSel_on (e := (11, 14, .int .i64 x3)) 3 rfl rfl (hon 11 (by kernel_rfl)) rfl
      have e17 : a.tmps[17]? = some (.int .i64 x4) := by rw [ha]; exact putSel_on (e := (14, 17, .int .i64 x4)) 4 rfl rfl (hon 14 (by kernel_rfl)) rfl
      have e20 : a.tmps[20]? = some (.int .i64 x5) := by rw [ha]; exact putSel_on (e := (17, 20, .int .i64 x5)) 5 rfl rfl (hon 17 (by kernel_rfl)) rfl
      replace ha := Aside0.mk ha
      have HB := Aside0.mk Q_HB
      have G0 := Aside0.mk (Q_G0 (hoff 19 (by kernel_rfl)))
      refine value_ (w1 := w') (v := .agg #[.int .i64 x0, .int .i64 x1, .int .i64 x2, .int .i64 x3, .int .i64 x4, .int .i64 x5]) (by rfl) rfl ?_ ?_
      · go_simp
        (try simp only [i64_w])
        try rfl
      refine hK.out _ _ ⟨(by rw [ha.out]; exact putSel_upk 6 hb_ rfl rfl rfl), Q_HB, Q_G0, fun h0_ => absurd ((hoff 19 (by kernel_rfl)).symm.trans h0_) (by decide)⟩
    refine steps_cons ?_ ?_
    · rintro b a w' ⟨ha, Q_HB, Q_G0, Q_G1⟩ hb_ hon hoff
      refine ⟨_, rfl, fun K hK => ?_⟩
      have e2 : a.tmps[2]? = some (.pointer (some ⟨W.heap.size, 0, none⟩)) := by rw [ha]; exact (putSel_off rfl).trans rfl
      have e21 : a.tmps[21]? = some (.agg #[.int .i64 x0, .int .i64 x1, .int .i64 x2, .int .i64 x3, .int .i64 x4, .int .i64 x5]) := by rw [ha]; exact putSel_on (e := (18, 21, .agg #[.int .i64 x0, .int .i64 x1, .int .i64 x2, .int .i64 x3, .int .i64 x4, .int .i64 x5])) 6 rfl rfl (hon 18 (by kernel_rfl)) rfl
      replace ha := Aside0.mk ha
      have HB := Aside0.mk Q_HB
      have G0 := Aside0.mk (Q_G0 hb_)
      have z0 : w'.cell? ⟨W.heap.size, 0, none⟩ = some (.int .i64 0) := blk_cell G0.out 0
      have z1 : w'.cell? ⟨W.heap.size, 1, none⟩ = some (.int .i64 0) := blk_cell G0.out 1
      have z2 : w'.cell? ⟨W.heap.size, 2, none⟩ = some (.int .i64 0) := blk_cell G0.out 2
      have z3 : w'.cell? ⟨W.heap.size, 3, none⟩ = some (.int .i64 0) := blk_cell G0.out 3
      have z4 : w'.cell? ⟨W.heap.size, 4, none⟩ = some (.int .i64 0) := blk_cell G0.out 4
      have z5 : w'.cell? ⟨W.heap.size, 5, none⟩ = some (.int .i64 0) := blk_cell G0.out 5
      have zf0 := blk_frozen G0.out 0
      have zf1 := blk_frozen G0.out 1
      have zf2 := blk_frozen G0.out 2
      have zf3 := blk_frozen G0.out 3
      have zf4 := blk_frozen G0.out 4
      have zf5 := blk_frozen G0.out 5
      refine skip_ (w1 := ?_) (by rfl) rfl ?_ ?_
      rotate_left
      · go_simp
        rfl
      refine hK.out _ _ ⟨(by rw [ha.out]; exact putSel_none (v := undef) rfl), (Below.setCell (p := ⟨W.heap.size, 5, none⟩) (Below.setCell (p := ⟨W.heap.size, 4, none⟩) (Below.setCell (p := ⟨W.heap.size, 3, none⟩) (Below.setCell (p := ⟨W.heap.size, 2, none⟩) (Below.setCell (p := ⟨W.heap.size, 1, none⟩) (Below.setCell (p := ⟨W.heap.size, 0, none⟩) HB.out (Nat.le_refl _) _) (Nat.le_refl _) _) (Nat.le_refl _) _) (Nat.le_refl _) _) (Nat.le_refl _) _) (Nat.le_refl _) _), fun h0_ => absurd ((up_self b 19).symm.trans h0_) (by decide), fun _ => (blk_put (cs := #[.int .i64 x0, .int .i64 x1, .int .i64 x2, .int .i64 x3, .int .i64 x4, .int .i64 0]) (cs' := #[.int .i64 x0, .int .i64 x1, .int .i64 x2, .int .i64 x3, .int .i64 x4, .int .i64 x5]) (blk_put (cs := #[.int .i64 x0, .int .i64 x1, .int .i64 x2, .int .i64 x3, .int .i64 0, .int .i64 0]) (cs' := #[.int .i64 x0, .int .i64 x1, .int .i64 x2, .int .i64 x3, .int .i64 x4, .int .i64 0]) (blk_put (cs := #[.int .i64 x0, .int .i64 x1, .int .i64 x2, .int .i64 0, .int .i64 0, .int .i64 0]) (cs' := #[.int .i64 x0, .int .i64 x1, .int .i64 x2, .int .i64 x3, .int .i64 0, .int .i64 0]) (blk_put (cs := #[.int .i64 x0, .int .i64 x1, .int .i64 0, .int .i64 0, .int .i64 0, .int .i64 0]) (cs' := #[.int .i64 x0, .int .i64 x1, .int .i64 x2, .int .i64 0, .int .i64 0, .int .i64 0]) (blk_put (cs := #[.int .i64 x0, .int .i64 0, .int .i64 0, .int .i64 0, .int .i64 0, .int .i64 0]) (cs' := #[.int .i64 x0, .int .i64 x1, .int .i64 0, .int .i64 0, .int .i64 0, .int .i64 0]) (blk_put (cs := #[.int .i64 0, .int .i64 0, .int .i64 0, .int .i64 0, .int .i64 0, .int .i64 0]) (cs' := #[.int .i64 x0, .int .i64 0, .int .i64 0, .int .i64 0, .int .i64 0, .int .i64 0]) G0.out 0 _ rfl) 1 _ rfl) 2 _ rfl) 3 _ rfl) 4 _ rfl) 5 _ rfl)⟩
    exact steps_nil
  · rintro b a w' hall ⟨ha, Q_HB, Q_G0, Q_G1⟩
    clear G0 HB
    have hb2_ := hall 2 (by kernel_rfl)
    have hb5_ := hall 5 (by kernel_rfl)
    have hb8_ := hall 8 (by kernel_rfl)
    have hb11_ := hall 11 (by kernel_rfl)
    have hb14_ := hall 14 (by kernel_rfl)
    have hb17_ := hall 17 (by kernel_rfl)
    have hb18_ := hall 18 (by kernel_rfl)
    have hb19_ := hall 19 (by kernel_rfl)
    subst ha
    simp only [putSel, hb2_, hb5_, hb8_, hb11_, hb14_, hb17_, hb18_, hb19_, if_true, Act.put, List.setIfInBounds_toArray, List.set_cons_zero, List.set_cons_succ]
    have HB := Aside0.mk Q_HB
    clear Q_HB
    clear Q_G0
    have G1 := Aside0.mk (Q_G1 hb19_)
    clear Q_G1
    clear hall hb2_ hb5_ hb8_ hb11_ hb14_ hb17_ hb18_ hb19_
    go_wp2_with fail
    refine bodyPost_ret (results_cell_row rfl _ _ W.heap.size 25 (six x0 x1 x2 x3 x4 x5) (0, 0) _ rfl G1.out Tryd.underlying25 rfl (by kernel_rfl)) rfl ?_
    exact ⟨rfl, HB.out⟩
set_option maxHeartbeats 4000000 in
set_option maxRecDepth 100000 in
theorem faces_walk (x0 x1 x2 x3 x4 x5 : Int) (W : World) : Calls Tryd.prog 42 #[.agg (six x0 x1 x2 x3 x4 x5)] W fun e w' =>
    ∃ b : Nat, e = .returned (.slice (some ⟨b, 0, none⟩) 6 6) ∧ W.heap.size ≤ b ∧ w'.heap[b]? = some (.cells (six x0 x1 x2 x3 x4 x5) 3 (0, 0)) ∧ Below W.heap.size W w' := by
  go_enter Tryd.func42, Tryd.ntmps42
  go_wp2_with fail
  go_ret
  have h1 := blk_new (W.alloc (.cells (six x0 x1 x2 x3 x4 x5) 25)) (.cells (six x0 x1 x2 x3 x4 x5) 3)
  rw [show (W.alloc (.cells (six x0 x1 x2 x3 x4 x5) 25)).heap.size = W.heap.size + 1 from by simp] at h1
  exact ⟨W.heap.size + 1, rfl, Nat.le_succ _, h1, ((Below.refl _ W).alloc (Nat.le_refl _) _).alloc (by simp) _⟩
theorem cell6 {W : World} {b : Nat} {x0 x1 x2 x3 x4 x5 : Int} (h : W.heap[b]? = some (.cells (six x0 x1 x2 x3 x4 x5) 3 (0, 0))) {i : Nat} (hi : i < 6) : ∃ x : Int, W.cell? ⟨b, i, none⟩ = some (.int .i64 x) := by
  rcases (show i = 0 ∨ i = 1 ∨ i = 2 ∨ i = 3 ∨ i = 4 ∨ i = 5 by omega) with rfl | rfl | rfl | rfl | rfl | rfl
  · exact ⟨x0, blk_cell h 0⟩
  · exact ⟨x1, blk_cell h 1⟩
  · exact ⟨x2, blk_cell h 2⟩
  · exact ⟨x3, blk_cell h 3⟩
  · exact ⟨x4, blk_cell h 4⟩
  · exact ⟨x5, blk_cell h 5⟩
set_option maxHeartbeats 4000000 in
set_option maxRecDepth 100000 in
theorem less_walk (x0 x1 x2 x3 x4 x5 y0 y1 y2 y3 y4 y5 : Int) (W : World) : Calls Tryd.prog 69 #[.agg (six x0 x1 x2 x3 x4 x5), .agg (six y0 y1 y2 y3 y4 y5)] W fun e w' =>
    ∃ r : Bool, e = .returned (.bool r) ∧ Below W.heap.size W w' := by
  have HB := Go.Lib.hid (show Below W.heap.size W ((W.alloc (.cells (six x0 x1 x2 x3 x4 x5) 25)).alloc (.cells (six y0 y1 y2 y3 y4 y5) 25)) from ((Below.refl _ W).alloc (Nat.le_refl _) _).alloc (by simp) _)
  have BA := Go.Lib.hid (blk_alloc (blk_new W (.cells (six x0 x1 x2 x3 x4 x5) 25)) (.cells (six y0 y1 y2 y3 y4 y5) 25))
  have BB := Go.Lib.hid (blk_new (W.alloc (.cells (six x0 x1 x2 x3 x4 x5) 25)) (.cells (six y0 y1 y2 y3 y4 y5) 25))
  go_enter Tryd.func69, Tryd.ntmps69
  go_upto_region 1 with fail
  obtain ⟨aB, haB⟩ : ∃ aB, aB = W.heap.size := ⟨_, rfl⟩
  obtain ⟨bB, hbB⟩ : ∃ bB, bB = W.heap.size + 1 := ⟨_, rfl⟩
  rw [show (W.alloc (.cells (six x0 x1 x2 x3 x4 x5) 25)).heap.size = W.heap.size + 1 from by simp, ← hbB] at BB
  rw [← haB] at BA
  rw [← hbB, ← haB]
  clear haB hbB
  generalize World.alloc (World.alloc _ _) _ = w1 at HB BA BB ⊢
  refine start_ (n := 6) (S := fun w' => True) (ds := []) #[false, false, false, false, false, false] (by kernel_rfl) rfl rfl trivial (fun hHeld => ?_)
  refine with_tabW dls.tab1 dls.bits1 (fun HT_ HW_ => ?_)
  have n_HB := Go.Lib.hid (below_drew HB.out)
  have n_BA := Go.Lib.hid (blk_drew BA.out)
  have n_BB := Go.Lib.hid (blk_drew BB.out)
  clear HB BA BB
  have HB := n_HB
  have BA := n_BA
  have BB := n_BB
  clear n_HB n_BA n_BB
  generalize World.drew _ = w1_ at HB BA BB hHeld ⊢
  refine inv_at [0, 1, 2, 3, 4, 5] (fun a0_ b a w' => ∃ (ba_ : Nat) (bb_ : Nat) (m1_ : Value) (m3_ : Value) (m4_ : Value) (m5_ : Value), a = putSel a0_ b [(0, 8, .agg #[.int .i64 x0, .int .i64 x1, .int .i64 x2, .int .i64 x3, .int .i64 x4, .int .i64 x5]), (1, 9, m1_), (2, 10, .agg #[.int .i64 y0, .int .i64 y1, .int .i64 y2, .int .i64 y3, .int .i64 y4, .int .i64 y5]), (3, 11, m3_), (4, 5, m4_), (5, 6, m5_)] ∧ (Below W.heap.size W w') ∧ (w'.heap[aB]? = some (.cells #[.int .i64 x0, .int .i64 x1, .int .i64 x2, .int .i64 x3, .int .i64 x4, .int .i64 x5] 25 (0, 0))) ∧ (w'.heap[bB]? = some (.cells #[.int .i64 y0, .int .i64 y1, .int .i64 y2, .int .i64 y3, .int .i64 y4, .int .i64 y5] 25 (0, 0))) ∧ (b 1 = true → w'.heap[ba_]? = some (.cells #[.int .i64 x0, .int .i64 x1, .int .i64 x2, .int .i64 x3, .int .i64 x4, .int .i64 x5] 3 (0, 0))) ∧ (b 3 = true → w'.heap[bb_]? = some (.cells #[.int .i64 y0, .int .i64 y1, .int .i64 y2, .int .i64 y3, .int .i64 y4, .int .i64 y5] 3 (0, 0))) ∧ (b 1 = true → (m1_ : Value) = .slice (some ⟨ba_, 0, none⟩) 6 6) ∧ (b 3 = true → (m3_ : Value) = .slice (some ⟨bb_, 0, none⟩) 6 6) ∧ (b 4 = true → (m4_ : Value) = .slice (some ⟨ba_, 0, none⟩) 6 6) ∧ (b 5 = true → (m5_ : Value) = .slice (some ⟨bb_, 0, none⟩) 6 6)) HT_.out HW_.out (by kernel_rfl) (by kernel_rfl) ?_ ?_ ?_
  · exact ⟨0, 0, .bool false, .bool false, .bool false, .bool false, by simp only [putSel, Bool.false_eq_true, if_false], HB.out, BA.out, BB.out, fun h_ => absurd h_ (by decide), fun h_ => absurd h_ (by decide), fun h_ => absurd h_ (by decide), fun h_ => absurd h_ (by decide), fun h_ => absurd h_ (by decide), fun h_ => absurd h_ (by decide)⟩
  · skip
    clear BA BB HB
    refine steps_cons ?_ ?_
    · rintro b a w' ⟨ba_, bb_, m1_, m3_, m4_, m5_, ha, Q_HB, Q_BA, Q_BB, Q_RA, Q_RB, Q_X1_, Q_X3_, Q_X4_, Q_X5_⟩ hb_ hon hoff
      refine ⟨_, rfl, fun K hK => ?_⟩
      have e2 : a.tmps[2]? = some (.pointer (some ⟨aB, 0, none⟩)) := by rw [ha]; exact (putSel_off rfl).trans rfl
      replace ha := Aside0.mk ha
      have HB := Aside0.mk Q_HB
      have BA := Aside0.mk Q_BA
      have BB := Aside0.mk Q_BB
      have o0 : w'.cell? ⟨aB, 0, none⟩ = some (.int .i64 x0) := blk_cell BA.out 0
      have o1 : w'.cell? ⟨aB, 1, none⟩ = some (.int .i64 x1) := blk_cell BA.out 1
      have o2 : w'.cell? ⟨aB, 2, none⟩ = some (.int .i64 x2) := blk_cell BA.out 2
      have o3 : w'.cell? ⟨aB, 3, none⟩ = some (.int .i64 x3) := blk_cell BA.out 3
      have o4 : w'.cell? ⟨aB, 4, none⟩ = some (.int .i64 x4) := blk_cell BA.out 4
      have o5 : w'.cell? ⟨aB, 5, none⟩ = some (.int .i64 x5) := blk_cell BA.out 5
      refine value_ (w1 := w') (v := .agg #[.int .i64 x0, .int .i64 x1, .int .i64 x2, .int .i64 x3, .int .i64 x4, .int .i64 x5]) (by rfl) rfl ?_ ?_
      · go_simp
        (try simp only [i64_w])
        try rfl
      refine hK.out _ _ ⟨ba_, bb_, m1_, m3_, m4_, m5_, (by rw [ha.out]; exact putSel_upk 0 hb_ rfl rfl rfl), Q_HB, Q_BA, Q_BB, fun h0_ => absurd ((hoff 1 (by kernel_rfl)).symm.trans h0_) (by decide), fun h0_ => absurd ((hoff 3 (by kernel_rfl)).symm.trans h0_) (by decide), fun h0_ => absurd ((hoff 1 (by kernel_rfl)).symm.trans h0_) (by decide), fun h0_ => absurd ((hoff 3 (by kernel_rfl)).symm.trans h0_) (by decide), fun h0_ => absurd ((hoff 4 (by kernel_rfl)).symm.trans h0_) (by decide), fun h0_ => absurd ((hoff 5 (by kernel_rfl)).symm.trans h0_) (by decide)⟩
    refine steps_cons ?_ ?_
    · rintro b a w' ⟨ba_, bb_, m1_, m3_, m4_, m5_, ha, Q_HB, Q_BA, Q_BB, Q_RA, Q_RB, Q_X1_, Q_X3_, Q_X4_, Q_X5_⟩ hb_ hon hoff
      refine ⟨_, rfl, fun K hK => ?_⟩
      have e8 : a.tmps[8]? = some (.agg #[.int .i64 x0, .int .i64 x1, .int .i64 x2, .int .i64 x3, .int .i64 x4, .int .i64 x5]) := by rw [ha]; exact putSel_on (e := (0, 8, .agg #[.int .i64 x0, .int .i64 x1, .int .i64 x2, .int .i64 x3, .int .i64 x4, .int .i64 x5])) 0 rfl rfl (hon 0 (by kernel_rfl)) rfl
      replace ha := Aside0.mk ha
      have HB := Aside0.mk Q_HB
      have BA := Aside0.mk Q_BA
      have BB := Aside0.mk Q_BB
      refine call_ 42 #[.agg #[.int .i64 x0, .int .i64 x1, .int .i64 x2, .int .i64 x3, .int .i64 x4, .int .i64 x5]] (by rfl) rfl ?_ ?_
      · go_simp
        (try rfl)
      with_reducible refine (faces_walk _ _ _ _ _ _ w').mono ?_
      rintro e' w1 ⟨b_, rfl, _, hk, hb⟩
      refine ⟨_, rfl, ?_⟩
      refine hK.out _ _ ⟨b_, bb_, (.slice (some ⟨b_, 0, none⟩) 6 6), m3_, m4_, m5_, (by rw [ha.out]; exact putSel_upk 1 hb_ rfl rfl rfl), below_then HB.out HB.out.size hb, blk_below BA.out hb, blk_below BB.out hb, fun _ => hk, fun h0_ => absurd ((hoff 3 (by kernel_rfl)).symm.trans h0_) (by decide), fun _ => rfl, fun h0_ => absurd ((hoff 3 (by kernel_rfl)).symm.trans h0_) (by decide), fun h0_ => absurd ((hoff 4 (by kernel_rfl)).symm.trans h0_) (by decide), fun h0_ => absurd ((hoff 5 (by kernel_rfl)).symm.trans h0_) (by decide)⟩
    refine steps_cons ?_ ?_
    · rintro b a w' ⟨ba_, bb_, m1_, m3_, m4_, m5_, ha, Q_HB, Q_BA, Q_BB, Q_RA, Q_RB, Q_X1_, Q_X3_, Q_X4_, Q_X5_⟩ hb_ hon hoff
      refine ⟨_, rfl, fun K hK => ?_⟩
      have e3 : a.tmps[3]? = some (.pointer (some ⟨bB, 0, none⟩)) := by rw [ha]; exact (putSel_off rfl).trans rfl
      replace ha := Aside0.mk ha
      have HB := Aside0.mk Q_HB
      have BA := Aside0.mk Q_BA
      have BB := Aside0.mk Q_BB
      have o0 : w'.cell? ⟨bB, 0, none⟩ = some (.int .i64 y0) := blk_cell BB.out 0
      have o1 : w'.cell? ⟨bB, 1, none⟩ = some (.int .i64 y1) := blk_cell BB.out 1
      have o2 : w'.cell? ⟨bB, 2, none⟩ = some (.int .i64 y2) := blk_cell BB.out 2
      have o3 : w'.cell? ⟨bB, 3, none⟩ = some (.int .i64 y3) := blk_cell BB.out 3
      have o4 : w'.cell? ⟨bB, 4, none⟩ = some (.int .i64 y4) := blk_cell BB.out 4
      have o5 : w'.cell? ⟨bB, 5, none⟩ = some (.int .i64 y5) := blk_cell BB.out 5
      refine value_ (w1 := w') (v := .agg #[.int .i64 y0, .int .i64 y1, .int .i64 y2, .int .i64 y3, .int .i64 y4, .int .i64 y5]) (by rfl) rfl ?_ ?_
      · go_simp
        (try simp only [i64_w])
        try rfl
      refine hK.out _ _ ⟨ba_, bb_, m1_, m3_, m4_, m5_, (by rw [ha.out]; exact putSel_upk 2 hb_ rfl rfl rfl), Q_HB, Q_BA, Q_BB, Q_RA, fun h0_ => absurd ((hoff 3 (by kernel_rfl)).symm.trans h0_) (by decide), Q_X1_, fun h0_ => absurd ((hoff 3 (by kernel_rfl)).symm.trans h0_) (by decide), fun h0_ => absurd ((hoff 4 (by kernel_rfl)).symm.trans h0_) (by decide), fun h0_ => absurd ((hoff 5 (by kernel_rfl)).symm.trans h0_) (by decide)⟩
    refine steps_cons ?_ ?_
    · rintro b a w' ⟨ba_, bb_, m1_, m3_, m4_, m5_, ha, Q_HB, Q_BA, Q_BB, Q_RA, Q_RB, Q_X1_, Q_X3_, Q_X4_, Q_X5_⟩ hb_ hon hoff
      refine ⟨_, rfl, fun K hK => ?_⟩
      have e10 : a.tmps[10]? = some (.agg #[.int .i64 y0, .int .i64 y1, .int .i64 y2, .int .i64 y3, .int .i64 y4, .int .i64 y5]) := by rw [ha]; exact putSel_on (e := (2, 10, .agg #[.int .i64 y0, .int .i64 y1, .int .i64 y2, .int .i64 y3, .int .i64 y4, .int .i64 y5])) 2 rfl rfl (hon 2 (by kernel_rfl)) rfl
      replace ha := Aside0.mk ha
      have HB := Aside0.mk Q_HB
      have BA := Aside0.mk Q_BA
      have BB := Aside0.mk Q_BB
      have RA := Aside0.mk (Q_RA (hon 1 (by kernel_rfl)))
      refine call_ 42 #[.agg #[.int .i64 y0, .int .i64 y1, .int .i64 y2, .int .i64 y3, .int .i64 y4, .int .i64 y5]] (by rfl) rfl ?_ ?_
      · go_simp
        (try rfl)
      with_reducible refine (faces_walk _ _ _ _ _ _ w').mono ?_
      rintro e' w1 ⟨b_, rfl, _, hk, hb⟩
      refine ⟨_, rfl, ?_⟩
      refine hK.out _ _ ⟨ba_, b_, m1_, (.slice (some ⟨b_, 0, none⟩) 6 6), m4_, m5_, (by rw [ha.out]; exact putSel_upk 3 hb_ rfl rfl rfl), below_then HB.out HB.out.size hb, blk_below BA.out hb, blk_below BB.out hb, fun _ => blk_below RA.out hb, fun _ => hk, Q_X1_, fun _ => rfl, fun h0_ => absurd ((hoff 4 (by kernel_rfl)).symm.trans h0_) (by decide), fun h0_ => absurd ((hoff 5 (by kernel_rfl)).symm.trans h0_) (by decide)⟩
    refine steps_cons ?_ ?_
    · rintro b a w' ⟨ba_, bb_, m1_, m3_, m4_, m5_, ha, Q_HB, Q_BA, Q_BB, Q_RA, Q_RB, Q_X1_, Q_X3_, Q_X4_, Q_X5_⟩ hb_ hon hoff
      refine ⟨_, rfl, fun K hK => ?_⟩
      have e9 : a.tmps[9]? = some (m1_) := by rw [ha]; exact putSel_on (e := (1, 9, m1_)) 1 rfl rfl (hon 1 (by kernel_rfl)) rfl
      rw [Q_X1_ (hon 1 (by kernel_rfl))] at e9
      replace ha := Aside0.mk ha
      have HB := Aside0.mk Q_HB
      have BA := Aside0.mk Q_BA
      have BB := Aside0.mk Q_BB
      have RA := Aside0.mk (Q_RA (hon 1 (by kernel_rfl)))
      have RB := Aside0.mk (Q_RB (hon 3 (by kernel_rfl)))
      refine value_ (w1 := w') (v := .slice (some ⟨ba_, 0, none⟩) 6 6) (by rfl) rfl ?_ ?_
      · go_simp
        (try simp only [i64_w])
        try rfl
      refine hK.out _ _ ⟨ba_, bb_, m1_, m3_, (.slice (some ⟨ba_, 0, none⟩) 6 6), m5_, (by rw [ha.out]; exact putSel_upk 4 hb_ rfl rfl rfl), Q_HB, Q_BA, Q_BB, Q_RA, Q_RB, Q_X1_, Q_X3_, fun _ => rfl, fun h0_ => absurd ((hoff 5 (by kernel_rfl)).symm.trans h0_) (by decide)⟩
    refine steps_cons ?_ ?_
    · rintro b a w' ⟨ba_, bb_, m1_, m3_, m4_, m5_, ha, Q_HB, Q_BA, Q_BB, Q_RA, Q_RB, Q_X1_, Q_X3_, Q_X4_, Q_X5_⟩ hb_ hon hoff
      refine ⟨_, rfl, fun K hK => ?_⟩
      have e11 : a.tmps[11]? = some (m3_) := by rw [ha]; exact putSel_on (e := (3, 11, m3_)) 3 rfl rfl (hon 3 (by kernel_rfl)) rfl
      rw [Q_X3_ (hon 3 (by kernel_rfl))] at e11
      replace ha := Aside0.mk ha
      have HB := Aside0.mk Q_HB
      have BA := Aside0.mk Q_BA
      have BB := Aside0.mk Q_BB
      have RA := Aside0.mk (Q_RA (hon 1 (by kernel_rfl)))
      have RB := Aside0.mk (Q_RB (hon 3 (by kernel_rfl)))
      refine value_ (w1 := w') (v := .slice (some ⟨bb_, 0, none⟩) 6 6) (by rfl) rfl ?_ ?_
      · go_simp
        (try simp only [i64_w])
        try rfl
      refine hK.out _ _ ⟨ba_, bb_, m1_, m3_, m4_, (.slice (some ⟨bb_, 0, none⟩) 6 6), (by rw [ha.out]; exact putSel_upk 5 hb_ rfl rfl rfl), Q_HB, Q_BA, Q_BB, Q_RA, Q_RB, Q_X1_, Q_X3_, Q_X4_, fun _ => rfl⟩
    exact steps_nil
  · rintro b a w' hall ⟨ba_, bb_, m1_, m3_, m4_, m5_, ha, Q_HB, Q_BA, Q_BB, Q_RA, Q_RB, Q_X1_, Q_X3_, Q_X4_, Q_X5_⟩
    clear BA BB HB
    have hb0_ := hall 0 (by kernel_rfl)
    have hb1_ := hall 1 (by kernel_rfl)
    have hb2_ := hall 2 (by kernel_rfl)
    have hb3_ := hall 3 (by kernel_rfl)
    have hb4_ := hall 4 (by kernel_rfl)
    have hb5_ := hall 5 (by kernel_rfl)
    subst ha
    obtain rfl := Q_X1_ hb1_
    obtain rfl := Q_X3_ hb3_
    obtain rfl := Q_X4_ hb4_
    obtain rfl := Q_X5_ hb5_
    simp only [putSel, hb0_, hb1_, hb2_, hb3_, hb4_, hb5_, if_true, Act.put, List.setIfInBounds_toArray, List.set_cons_zero, List.set_cons_succ]
    have HB := Aside0.mk Q_HB
    clear Q_HB
    have BA := Aside0.mk Q_BA
    clear Q_BA
    have BB := Aside0.mk Q_BB
    clear Q_BB
    have RA := Aside0.mk (Q_RA hb1_)
    clear Q_RA
    have RB := Aside0.mk (Q_RB hb3_)
    clear Q_RB
    clear hall hb0_ hb1_ hb2_ hb3_ hb4_ hb5_
    go_wp2_with fail
    go_loopw [14] (fun v14 wr => ∃ i : Nat, v14 = .int .i64 (i : Int) ∧ i ≤ 6 ∧ Below W.heap.size W wr ∧ wr.heap[ba_]? = some (.cells (six x0 x1 x2 x3 x4 x5) 3 (0, 0)) ∧ wr.heap[bb_]? = some (.cells (six y0 y1 y2 y3 y4 y5) 3 (0, 0))) (fun v14 _ => 6 - (intOf v14).toNat)
    case atStart => exact ⟨0, rfl, by omega, HB.out, RA.out, RB.out⟩
    case round =>
      clear HB BA BB RA RB
      obtain ⟨i, rfl, hi, hb, ra, rb⟩ := hrel
      have H1 := Go.Lib.hid (And.intro hb (And.intro ra rb))
      by_cases h6 : i < 6
      · obtain ⟨x, hx⟩ := cell6 ra h6
        obtain ⟨y, hy⟩ := cell6 rb h6
        have q0 : (0 : Int) ≤ (i : Int) := by omega
        have q1 : (i : Int) < 6 := by omega
        have q2 : IntKind.i64.wrap ((i : Int) + 1) = ((i + 1 : Nat) : Int) := by rw [IntKind.wrap_i64]; omega
        have HI := Go.Lib.hid h6
        clear hi hb ra rb h6
        by_cases he : x = y
        · have e0 : (x == y) = true := beq_iff_eq.2 he
          have e1 : (x != y) = false := by simp [he]
          clear he
          go_wp2_with fail
          repeat (go_quiet (fail); try go_wp2)
          exact ⟨⟨i + 1, by rw [Int.natCast_add]; rfl, HI.out, pw_below_drewN H1.out.1 _, blk_drewN H1.out.2.1 _, blk_drewN H1.out.2.2 _⟩, by have := HI.out; simp [intOf]; omega⟩
        · have e0 : (x == y) = false := beq_eq_false_iff_ne.2 he
          have e1 : (x != y) = true := by simp [he]
          clear he
          go_wp2_with fail
          repeat (go_quiet (fail); try go_wp2)
          go_ret
          exact ⟨_, rfl, pw_below_drewN (pw_below_drewN H1.out.1 _) _⟩
      · obtain rfl : i = 6 := by omega
        clear hi hb ra rb h6
        go_wp2_with fail
        go_ret
        exact ⟨false, rfl, H1.out.1⟩
end Go.Proofs.YtfcifidjjbknaaaDoor.DiF
