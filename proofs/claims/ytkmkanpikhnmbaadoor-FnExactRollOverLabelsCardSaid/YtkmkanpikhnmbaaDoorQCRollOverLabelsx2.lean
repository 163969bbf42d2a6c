/- Functions of the program as plain Lean functions, with their contracts: lines written by program for this claim. -/
import Derived.Test.YtkmkanpikhnmbaaDoorQCRollOverLabelsx0
import Derived.Test.YtkmkanpikhnmbaaDoorQCRollOverLabelsx1
namespace Go.Proofs.YtkmkanpikhnmbaaDoor.QCRollOverLabels
open Go.RowKit Go.Proofs.YtkmkanpikhnmbaaDoorW.PrintWords Go.Proofs.YtkmkanpikhnmbaaDoorW.PrintLast Go.Proofs.YtkmkanpikhnmbaaDoorW.PrintMore
attribute [local go_sem] max2_int min2_int max_two min_two max_three min_three max_four min_four   -- for this text's walks alone
set_option linter.unusedVariables false
set_option linter.unusedSimpArgs false

/-! ### spec_RollOverLabels: function 17 -/
mutual
def spec_RollOverLabels.j0 : Nat → ByteArray → List Int → Bool → Int → Int → Int → Int → Int → Int → Int → Int → Int → Int → List Int → Option (Int × Int × Int × Int × Int × Int × Int × Int × Bool)
  | 0, _, _, _, _, _, _, _, _, _, _, _, _, _, _ => none
  | k + 1, x2, x9, x34, x141000, x141001, x141002, x141003, x141004, x141005, x141006, x141007, x152000, x152001, x152002 => if x34 = true then (some (0, 0, 0, 0, 0, 0, 0, 0, false)) else (spec_RollOverLabels.l0 k x2 x9 0 x141000 x141001 x141002 x141003 x141004 x141005 x141006 x141007 x152000 x152001 x152002)
def spec_RollOverLabels.l0 : Nat → ByteArray → List Int → Int → Int → Int → Int → Int → Int → Int → Int → Int → Int → Int → List Int → Option (Int × Int × Int × Int × Int × Int × Int × Int × Bool)
  | 0, _, _, _, _, _, _, _, _, _, _, _, _, _, _ => none
  | k + 1, x2, x9, x11, x141000, x141001, x141002, x141003, x141004, x141005, x141006, x141007, x152000, x152001, x152002 => if x11 < (x2.size : Int) then (if 0 ≤ x11 then (if x11 ≤ (wrap64 (x11 + 1)) then (if (wrap64 (x11 + 1)) ≤ (x2.size : Int) then ((spec_diDir.f k (x2.extract (x11 : Int).toNat ((wrap64 (x11 + 1)) : Int).toNat)).bind fun t154 => ((spec_prRoll.f x152000 x152001 x152002 x9 x141000 x141001 x141002 x141003 x141004 x141005 x141006 x141007 t154).bind fun bt155 => (if bt155.2.2.2.2.2.2.2.2 = true then (spec_RollOverLabels.l0 k x2 x9 (wrap64 (x11 + 1)) bt155.1 bt155.2.1 bt155.2.2.1 bt155.2.2.2.1 bt155.2.2.2.2.1 bt155.2.2.2.2.2.1 bt155.2.2.2.2.2.2.1 bt155.2.2.2.2.2.2.2.1 x152000 x152001 x152002) else (some (0, 0, 0, 0, 0, 0, 0, 0, false))))) else (none)) else (none)) else (none)) else (some (x141000, x141001, x141002, x141003, x141004, x141005, x141006, x141007, true))
end
def spec_RollOverLabels.f (k : Nat) (a0 : ByteArray) (a1_0 : Int) (a1_1 : Int) (a1_2 : Int) (a1_3 : Int) (a1_4 : Int) (a1_5 : Int) (a1_6 : Int) (a1_7 : Int) (a2 : ByteArray) : Option (Int × Int × Int × Int × Int × Int × Int × Int × Bool) := (spec_prAsked.f k a0 a1_0 a1_1 a1_2 a1_3 a1_4 a1_5 a1_6 a1_7).bind fun bt142 => (if bt142.2.2.2.2 = true then ((spec_diWord.f k a2).bind fun t152 => (if t152 = true then ((spec_prMatch.f bt142.1 bt142.2.1 bt142.2.2.1 bt142.2.2.2.1 a1_0 a1_1 a1_2 a1_3 a1_4 a1_5 a1_6 a1_7).bind fun t153 => (spec_RollOverLabels.j0 k a2 bt142.2.2.2.1 (!t153) a1_0 a1_1 a1_2 a1_3 a1_4 a1_5 a1_6 a1_7 bt142.1 bt142.2.1 bt142.2.2.1)) else (spec_RollOverLabels.j0 k a2 bt142.2.2.2.1 true a1_0 a1_1 a1_2 a1_3 a1_4 a1_5 a1_6 a1_7 bt142.1 bt142.2.1 bt142.2.2.1))) else (spec_RollOverLabels.j0 k a2 bt142.2.2.2.1 true a1_0 a1_1 a1_2 a1_3 a1_4 a1_5 a1_6 a1_7 bt142.1 bt142.2.1 bt142.2.2.1))
theorem spec_RollOverLabels.mono_l : ∀ k, (∀ y0 y1 y2 y3 y4 y5 y6 y7 y8 y9 y10 y11 y12 y13, LeO (spec_RollOverLabels.j0 k y0 y1 y2 y3 y4 y5 y6 y7 y8 y9 y10 y11 y12 y13) (spec_RollOverLabels.j0 (k + 1) y0 y1 y2 y3 y4 y5 y6 y7 y8 y9 y10 y11 y12 y13)) ∧ (∀ y0 y1 y2 y3 y4 y5 y6 y7 y8 y9 y10 y11 y12 y13, LeO (spec_RollOverLabels.l0 k y0 y1 y2 y3 y4 y5 y6 y7 y8 y9 y10 y11 y12 y13) (spec_RollOverLabels.l0 (k + 1) y0 y1 y2 y3 y4 y5 y6 y7 y8 y9 y10 y11 y12 y13))
  | 0 => ⟨fun _ _ _ _ _ _ _ _ _ _ _ _ _ _ r h => by simp [spec_RollOverLabels.j0] at h, fun _ _ _ _ _ _ _ _ _ _ _ _ _ _ r h => by simp [spec_RollOverLabels.l0] at h⟩
  | k + 1 => by
    obtain ⟨ih0, ih1⟩ := spec_RollOverLabels.mono_l k
    refine ⟨?_, ?_⟩
    · intro y0 y1 y2 y3 y4 y5 y6 y7 y8 y9 y10 y11 y12 y13
      unfold spec_RollOverLabels.j0
      repeat' first
      | (with_reducible exact ih0 _ _ _ _ _ _ _ _ _ _ _ _ _ _)
      | (with_reducible exact ih1 _ _ _ _ _ _ _ _ _ _ _ _ _ _)
      | (with_reducible exact spec_diDir.mono _ _)
      | (with_reducible exact spec_diWord.mono _ _)
      | (with_reducible exact spec_prAsked.mono _ _ _ _ _ _ _ _ _ _)
      | (with_reducible exact LeO.refl _)
      | (with_reducible exact LeO.none _)
      | (with_reducible refine LeO.ite ?_ ?_)
      | (with_reducible refine LeO.bind ?_ (fun _ => ?_))
      | exact ih0 _ _ _ _ _ _ _ _ _ _ _ _ _ _
      | exact ih1 _ _ _ _ _ _ _ _ _ _ _ _ _ _
      | exact spec_diDir.mono _ _
      | exact spec_diWord.mono _ _
      | exact spec_prAsked.mono _ _ _ _ _ _ _ _ _ _
      | exact LeO.none _
      | refine LeO.ite ?_ ?_
      | refine LeO.bind ?_ (fun _ => ?_)
    · intro y0 y1 y2 y3 y4 y5 y6 y7 y8 y9 y10 y11 y12 y13
      unfold spec_RollOverLabels.l0
      repeat' first
      | (with_reducible exact ih0 _ _ _ _ _ _ _ _ _ _ _ _ _ _)
      | (with_reducible exact ih1 _ _ _ _ _ _ _ _ _ _ _ _ _ _)
      | (with_reducible exact spec_diDir.mono _ _)
      | (with_reducible exact spec_diWord.mono _ _)
      | (with_reducible exact spec_prAsked.mono _ _ _ _ _ _ _ _ _ _)
      | (with_reducible exact LeO.refl _)
      | (with_reducible exact LeO.none _)
      | (with_reducible refine LeO.ite ?_ ?_)
      | (with_reducible refine LeO.bind ?_ (fun _ => ?_))
      | exact ih0 _ _ _ _ _ _ _ _ _ _ _ _ _ _
      | exact ih1 _ _ _ _ _ _ _ _ _ _ _ _ _ _
      | exact spec_diDir.mono _ _
      | exact spec_diWord.mono _ _
      | exact spec_prAsked.mono _ _ _ _ _ _ _ _ _ _
      | exact LeO.none _
      | refine LeO.ite ?_ ?_
      | refine LeO.bind ?_ (fun _ => ?_)
theorem spec_RollOverLabels.mono : ∀ a0 a1 a2 a3 a4 a5 a6 a7 a8 a9 k, LeO (spec_RollOverLabels.f k a0 a1 a2 a3 a4 a5 a6 a7 a8 a9) (spec_RollOverLabels.f (k + 1) a0 a1 a2 a3 a4 a5 a6 a7 a8 a9) := by
  intro a0 a1 a2 a3 a4 a5 a6 a7 a8 a9 k
  obtain ⟨ih0, ih1⟩ := spec_RollOverLabels.mono_l k
  unfold spec_RollOverLabels.f
  repeat' first
      | (with_reducible exact ih0 _ _ _ _ _ _ _ _ _ _ _ _ _ _)
      | (with_reducible exact ih1 _ _ _ _ _ _ _ _ _ _ _ _ _ _)
      | (with_reducible exact spec_diDir.mono _ _)
      | (with_reducible exact spec_diWord.mono _ _)
      | (with_reducible exact spec_prAsked.mono _ _ _ _ _ _ _ _ _ _)
      | (with_reducible exact LeO.refl _)
      | (with_reducible exact LeO.none _)
      | (with_reducible refine LeO.ite ?_ ?_)
      | (with_reducible refine LeO.bind ?_ (fun _ => ?_))
      | exact ih0 _ _ _ _ _ _ _ _ _ _ _ _ _ _
      | exact ih1 _ _ _ _ _ _ _ _ _ _ _ _ _ _
      | exact spec_diDir.mono _ _
      | exact spec_diWord.mono _ _
      | exact spec_prAsked.mono _ _ _ _ _ _ _ _ _ _
      | exact LeO.none _
      | refine LeO.ite ?_ ?_
      | refine LeO.bind ?_ (fun _ => ?_)
def spec_RollOverLabels.T7 : Bool × List (List Nat × List Nat) := (true, [([], []), ([], []), ([], []), ([], []), ([], []), ([], []), ([5], [5]), ([3, 4, 6], [3, 4, 6]), ([7], [7]), ([0, 1, 2, 8, 8], [0, 1, 2, 8]), ([9], [9]), ([10], [10]), ([10], [10]), ([], []), ([13, 11, 9, 0, 1, 2, 3, 4, 5, 6, 7, 8, 9, 10, 11, 13], [11, 13]), ([12, 14, 0, 1, 2, 3, 4, 5, 6, 7, 8, 9, 10, 11, 12, 13, 14], [12])])
def spec_RollOverLabels.B7 : List Nat := [0, 0, 0, 0, 0, 0, 32, 120, 248, 511, 1023, 2047, 2047, 0, 12287, 32767]
theorem spec_RollOverLabels.tab7 : rtab .any (opsOf Tryd.f17 7) = spec_RollOverLabels.T7 := by kernel_rfl
theorem spec_RollOverLabels.bits7 : waitsOk spec_RollOverLabels.T7.2 spec_RollOverLabels.B7 = true := by kernel_rfl
set_option maxHeartbeats 8000000 in
set_option maxRecDepth 100000 in
theorem spec_RollOverLabels.calls (k : Nat) (a0 : ByteArray) (a1_0 : Int) (a1_1 : Int) (a1_2 : Int) (a1_3 : Int) (a1_4 : Int) (a1_5 : Int) (a1_6 : Int) (a1_7 : Int) (a2 : ByteArray) (r1 : Int) (r2 : Int) (r3 : Int) (r4 : Int) (r5 : Int) (r6 : Int) (r7 : Int) (r8 : Int) (r9 : Bool) (w : World) (h : spec_RollOverLabels.f k a0 a1_0 a1_1 a1_2 a1_3 a1_4 a1_5 a1_6 a1_7 a2 = some (r1, r2, r3, r4, r5, r6, r7, r8, r9)) :
    Calls Tryd.prog 17 #[.string a0, .agg #[.int .i64 a1_0, .int .i64 a1_1, .int .i64 a1_2, .int .i64 a1_3, .int .i64 a1_4, .int .i64 a1_5, .int .i64 a1_6, .int .i64 a1_7], .string a2] w fun e w' => e = .returned (.tuple #[.agg #[.int .i64 r1, .int .i64 r2, .int .i64 r3, .int .i64 r4, .int .i64 r5, .int .i64 r6, .int .i64 r7, .int .i64 r8], .bool r9]) ∧ Below w.heap.size w w' := by
  have hu33 := Tryd.underlying33
  have hu44 := Tryd.underlying44
  have HB := Aside0.mk (Below.refl w.heap.size w)
  have H : ((spec_prAsked.f k a0 a1_0 a1_1 a1_2 a1_3 a1_4 a1_5 a1_6 a1_7).bind fun bt142 => (if bt142.2.2.2.2 = true then ((spec_diWord.f k a2).bind fun t152 => (if t152 = true then ((spec_prMatch.f bt142.1 bt142.2.1 bt142.2.2.1 bt142.2.2.2.1 a1_0 a1_1 a1_2 a1_3 a1_4 a1_5 a1_6 a1_7).bind fun t153 => (spec_RollOverLabels.j0 k a2 bt142.2.2.2.1 (!t153) a1_0 a1_1 a1_2 a1_3 a1_4 a1_5 a1_6 a1_7 bt142.1 bt142.2.1 bt142.2.2.1)) else (spec_RollOverLabels.j0 k a2 bt142.2.2.2.1 true a1_0 a1_1 a1_2 a1_3 a1_4 a1_5 a1_6 a1_7 bt142.1 bt142.2.1 bt142.2.2.1))) else (spec_RollOverLabels.j0 k a2 bt142.2.2.2.1 true a1_0 a1_1 a1_2 a1_3 a1_4 a1_5 a1_6 a1_7 bt142.1 bt142.2.1 bt142.2.2.1))) = some (r1, r2, r3, r4, r5, r6, r7, r8, r9) := h
  clear h
  replace H := Option.bind_eq_some_iff.mp H
  obtain ⟨⟨t142, t143, t144, t147, t150⟩, A40, H⟩ := H
  replace H : (if t150 = true then ((spec_diWord.f k a2).bind fun t152 => (if t152 = true then ((spec_prMatch.f t142 t143 t144 t147 a1_0 a1_1 a1_2 a1_3 a1_4 a1_5 a1_6 a1_7).bind fun t153 => (spec_RollOverLabels.j0 k a2 t147 (!t153) a1_0 a1_1 a1_2 a1_3 a1_4 a1_5 a1_6 a1_7 t142 t143 t144)) else (spec_RollOverLabels.j0 k a2 t147 true a1_0 a1_1 a1_2 a1_3 a1_4 a1_5 a1_6 a1_7 t142 t143 t144))) else (spec_RollOverLabels.j0 k a2 t147 true a1_0 a1_1 a1_2 a1_3 a1_4 a1_5 a1_6 a1_7 t142 t143 t144)) = some (r1, r2, r3, r4, r5, r6, r7, r8, r9) := H
  have A4 := Aside0.mk A40
  clear A40
  have HC5 := Aside0.mk H
  clear H
  go_enter Tryd.func17, Tryd.ntmps17
  go_upto_region 2 with (first | ((with_reducible refine gate_dst (N := 4) rfl ?_); refine box_event ?hg (N := 4) ?hd (cs := #[.int .i64 a1_0, .int .i64 a1_1, .int .i64 a1_2, .int .i64 a1_3, .int .i64 a1_4, .int .i64 a1_5, .int .i64 a1_6, .int .i64 a1_7]) (t := 33) ?hr ?_; (case hd => rfl); (case hg => rfl); (case hr => first | (go_simp; done) | (go_simp; rfl)); intro gb140 hg w6 hbox hb; have n0_ := Aside0.mk (below_step (by repeat (first | (with_reducible first | exact HB.out | apply below_alloc | apply pw_below_drewN | apply below_drew1) | exact HB.out)) hb); have n1_ := Aside0.mk (hbox); have n2_ := Aside0.mk ((by rw [hg]; exact (below_size (by repeat (first | (with_reducible first | exact HB.out | apply below_alloc | apply pw_below_drewN | apply below_drew1) | exact HB.out))) : w.heap.size ≤ gb140)); have n3_ := Aside0.mk ((by rw [hg]; exact (below_size (by repeat (first | (with_reducible first | exact HB.out | apply below_alloc | apply pw_below_drewN | apply below_drew1) | exact HB.out))) : w.heap.size ≤ gb140)); clear HB; have HB := n0_; have BK140 := n1_; have GW140 := n2_; have GE140 := n3_; clear n0_ n1_ n2_ n3_; clear hb hbox hg) | ((with_reducible refine gate_dst (N := 6) rfl ?_); refine box_event ?hg (N := 6) ?hd (cs := #[.int .i64 0, .int .i64 0, .int .i64 0, .int .i64 0, .int .i64 0, .int .i64 0, .int .i64 0, .int .i64 0]) (t := 33) ?hr ?_; (case hd => rfl); (case hg => rfl); (case hr => first | (go_simp; done) | (go_simp; rfl)); intro gb141 hg w7 hbox hb; have n0_ := Aside0.mk (blk_below (g := gb140) (o := .cells #[.int .i64 a1_0, .int .i64 a1_1, .int .i64 a1_2, .int .i64 a1_3, .int .i64 a1_4, .int .i64 a1_5, .int .i64 a1_6, .int .i64 a1_7] 33 (0, 0)) (by (with_reducible repeat (first | refine blk_drewN ?_ _ | refine blk_drew ?_ | refine blk_alloc ?_ _)); exact BK140.out) hb); have n1_ := Aside0.mk (below_step (by repeat (first | (with_reducible first | exact HB.out | apply below_alloc | apply pw_below_drewN | apply below_drew1 | refine below_set ?_ GE140.out) | exact HB.out)) hb); have n2_ := Aside0.mk (hbox); have n3_ := Aside0.mk ((by rw [hg]; exact (below_size (by repeat (first | (with_reducible first | exact HB.out | apply below_alloc | apply pw_below_drewN | apply below_drew1 | refine below_set ?_ GE140.out) | exact HB.out))) : w.heap.size ≤ gb141)); have n4_ := Aside0.mk ((by rw [hg]; exact (below_size (by repeat (first | (with_reducible first | exact HB.out | apply below_alloc | apply pw_below_drewN | apply below_drew1 | refine below_set ?_ GE140.out) | exact HB.out))) : w.heap.size ≤ gb141)); have n5_ := Aside0.mk ((by rw [hg]; exact Nat.ne_of_lt (blk_lt (g := gb140) (o := .cells #[.int .i64 a1_0, .int .i64 a1_1, .int .i64 a1_2, .int .i64 a1_3, .int .i64 a1_4, .int .i64 a1_5, .int .i64 a1_6, .int .i64 a1_7] 33 (0, 0)) (by (with_reducible repeat (first | refine blk_drewN ?_ _ | refine blk_drew ?_ | refine blk_alloc ?_ _)); exact BK140.out)) : gb140 ≠ gb141)); have n6_ := Aside0.mk ((by rw [hg]; exact Nat.ne_of_gt (blk_lt (g := gb140) (o := .cells #[.int .i64 a1_0, .int .i64 a1_1, .int .i64 a1_2, .int .i64 a1_3, .int .i64 a1_4, .int .i64 a1_5, .int .i64 a1_6, .int .i64 a1_7] 33 (0, 0)) (by (with_reducible repeat (first | refine blk_drewN ?_ _ | refine blk_drew ?_ | refine blk_alloc ?_ _)); exact BK140.out)) : gb141 ≠ gb140)); clear BK140; clear HB; have BK140 := n0_; have HB := n1_; have BK141 := n2_; have GW141 := n3_; have GE141 := n4_; have NB140_141 := n5_; have NB141_140 := n6_; clear n0_ n1_ n2_ n3_ n4_ n5_ n6_; clear hb hbox hg; have hnb8 := NB140_141.out; have hnc8 := NB141_140.out; have hcz9_0 : w7.cell? ⟨gb140, 0, none⟩ = some (.int .i64 a1_0) := (blk_cell BK140.out 0).trans rfl; have hcz9_1 : w7.cell? ⟨gb140, 1, none⟩ = some (.int .i64 a1_1) := (blk_cell BK140.out 1).trans rfl; have hcz9_2 : w7.cell? ⟨gb140, 2, none⟩ = some (.int .i64 a1_2) := (blk_cell BK140.out 2).trans rfl; have hcz9_3 : w7.cell? ⟨gb140, 3, none⟩ = some (.int .i64 a1_3) := (blk_cell BK140.out 3).trans rfl; have hcz9_4 : w7.cell? ⟨gb140, 4, none⟩ = some (.int .i64 a1_4) := (blk_cell BK140.out 4).trans rfl; have hcz9_5 : w7.cell? ⟨gb140, 5, none⟩ = some (.int .i64 a1_5) := (blk_cell BK140.out 5).trans rfl; have hcz9_6 : w7.cell? ⟨gb140, 6, none⟩ = some (.int .i64 a1_6) := (blk_cell BK140.out 6).trans rfl; have hcz9_7 : w7.cell? ⟨gb140, 7, none⟩ = some (.int .i64 a1_7) := (blk_cell BK140.out 7).trans rfl; have hfz9_0 := blk_frozen BK140.out 0; have hfz9_1 := blk_frozen BK140.out 1; have hfz9_2 := blk_frozen BK140.out 2; have hfz9_3 := blk_frozen BK140.out 3; have hfz9_4 := blk_frozen BK140.out 4; have hfz9_5 := blk_frozen BK140.out 5; have hfz9_6 := blk_frozen BK140.out 6; have hfz9_7 := blk_frozen BK140.out 7) | ((with_reducible refine gate_callee (f := 24) rfl ?_); refine goesL_ (some 17) rfl rfl Tryd.func24 (by kernel_rfl) rfl #[.string a0, .agg #[.int .i64 a1_0, .int .i64 a1_1, .int .i64 a1_2, .int .i64 a1_3, .int .i64 a1_4, .int .i64 a1_5, .int .i64 a1_6, .int .i64 a1_7]] rfl (by (try simp only [List.map_toArray, List.map_cons, List.map_nil]); first | done | rfl | (simp only [List.length_drop, List.length_take]; rfl)) ?_; (with_reducible refine (spec_prAsked.calls k a0 a1_0 a1_1 a1_2 a1_3 a1_4 a1_5 a1_6 a1_7 t142 t143 t144 t147 t150 _ A4.out).mono ?_); rintro e w10 ⟨v145, v148, rfl, ho0, ho1, hb⟩; refine ⟨_, rfl, ?_⟩; have n0_ := Aside0.mk (Kd.R_lower ho0 (below_size (by repeat (first | (with_reducible first | exact HB.out | apply below_alloc | apply pw_below_drewN | apply below_drew1 | refine below_set ?_ GE140.out | refine below_set ?_ GE141.out) | exact HB.out)))); have n1_ := Aside0.mk (Kd.R_lower ho1 (below_size (by repeat (first | (with_reducible first | exact HB.out | apply below_alloc | apply pw_below_drewN | apply below_drew1 | refine below_set ?_ GE140.out | refine below_set ?_ GE141.out) | exact HB.out)))); have n2_ := Aside0.mk (blk_below (g := gb140) (o := .cells #[.int .i64 a1_0, .int .i64 a1_1, .int .i64 a1_2, .int .i64 a1_3, .int .i64 a1_4, .int .i64 a1_5, .int .i64 a1_6, .int .i64 a1_7] 33 (0, 0)) (by (with_reducible repeat (first | refine blk_drewN ?_ _ | refine blk_drew ?_ | refine blk_alloc ?_ _)); exact BK140.out) hb); have n3_ := Aside0.mk (blk_below (g := gb141) (o := .cells #[.int .i64 0, .int .i64 0, .int .i64 0, .int .i64 0, .int .i64 0, .int .i64 0, .int .i64 0, .int .i64 0] 33 (0, 0)) (by (with_reducible repeat (first | refine blk_drewN ?_ _ | refine blk_drew ?_ | refine blk_alloc ?_ _)); exact BK141.out) hb); have n4_ := Aside0.mk (below_step (by repeat (first | (with_reducible first | exact HB.out | apply below_alloc | apply pw_below_drewN | apply below_drew1 | refine below_set ?_ GE140.out | refine below_set ?_ GE141.out) | exact HB.out)) hb); clear BK140; clear BK141; clear HB; have HO146 := n0_; have HO149 := n1_; have BK140 := n2_; have BK141 := n3_; have HB := n4_; clear n0_ n1_ n2_ n3_ n4_; (try clear hb); (try clear hb2); (try clear hk); (try clear hi); (try clear ho0); (try clear ho1)) | ((with_reducible refine gate_dst (N := 8) rfl ?_); refine box_event ?hg (N := 8) ?hd (cs := #[.int .i64 0, .int .i64 0, .slice none 0 0]) (t := 44) ?hr ?_; (case hd => rfl); (case hg => rfl); (case hr => first | (go_simp; done) | (go_simp; rfl)); intro gb151 hg w11 hbox hb; have n0_ := Aside0.mk (Kd.R_below (by (with_reducible repeat (first | apply Kd.R_alloc | apply Kd.R_drewN | apply Kd.R_drew)); exact HO146.out) hb); have n1_ := Aside0.mk (Kd.R_below (by (with_reducible repeat (first | apply Kd.R_alloc | apply Kd.R_drewN | apply Kd.R_drew)); exact HO149.out) hb); have n2_ := Aside0.mk (blk_below (g := gb140) (o := .cells #[.int .i64 a1_0, .int .i64 a1_1, .int .i64 a1_2, .int .i64 a1_3, .int .i64 a1_4, .int .i64 a1_5, .int .i64 a1_6, .int .i64 a1_7] 33 (0, 0)) (by (with_reducible repeat (first | refine blk_drewN ?_ _ | refine blk_drew ?_ | refine blk_alloc ?_ _)); exact BK140.out) hb); have n3_ := Aside0.mk (blk_below (g := gb141) (o := .cells #[.int .i64 0, .int .i64 0, .int .i64 0, .int .i64 0, .int .i64 0, .int .i64 0, .int .i64 0, .int .i64 0] 33 (0, 0)) (by (with_reducible repeat (first | refine blk_drewN ?_ _ | refine blk_drew ?_ | refine blk_alloc ?_ _)); exact BK141.out) hb); have n4_ := Aside0.mk (below_step (by repeat (first | (with_reducible first | exact HB.out | apply below_alloc | apply pw_below_drewN | apply below_drew1 | refine below_set ?_ GE140.out | refine below_set ?_ GE141.out) | exact HB.out)) hb); have n5_ := Aside0.mk (hbox); have n6_ := Aside0.mk ((by rw [hg]; exact (below_size (by repeat (first | (with_reducible first | exact HB.out | apply below_alloc | apply pw_below_drewN | apply below_drew1 | refine below_set ?_ GE140.out | refine below_set ?_ GE141.out) | exact HB.out))) : w.heap.size ≤ gb151)); have n7_ := Aside0.mk ((by rw [hg]; exact (below_size (by repeat (first | (with_reducible first | exact HB.out | apply below_alloc | apply pw_below_drewN | apply below_drew1 | refine below_set ?_ GE140.out | refine below_set ?_ GE141.out) | exact HB.out))) : w.heap.size ≤ gb151)); have n8_ := Aside0.mk ((by rw [hg]; exact Nat.ne_of_lt (blk_lt (g := gb140) (o := .cells #[.int .i64 a1_0, .int .i64 a1_1, .int .i64 a1_2, .int .i64 a1_3, .int .i64 a1_4, .int .i64 a1_5, .int .i64 a1_6, .int .i64 a1_7] 33 (0, 0)) (by (with_reducible repeat (first | refine blk_drewN ?_ _ | refine blk_drew ?_ | refine blk_alloc ?_ _)); exact BK140.out)) : gb140 ≠ gb151)); have n9_ := Aside0.mk ((by rw [hg]; exact Nat.ne_of_gt (blk_lt (g := gb140) (o := .cells #[.int .i64 a1_0, .int .i64 a1_1, .int .i64 a1_2, .int .i64 a1_3, .int .i64 a1_4, .int .i64 a1_5, .int .i64 a1_6, .int .i64 a1_7] 33 (0, 0)) (by (with_reducible repeat (first | refine blk_drewN ?_ _ | refine blk_drew ?_ | refine blk_alloc ?_ _)); exact BK140.out)) : gb151 ≠ gb140)); have n10_ := Aside0.mk ((by rw [hg]; exact Nat.ne_of_lt (blk_lt (g := gb141) (o := .cells #[.int .i64 0, .int .i64 0, .int .i64 0, .int .i64 0, .int .i64 0, .int .i64 0, .int .i64 0, .int .i64 0] 33 (0, 0)) (by (with_reducible repeat (first | refine blk_drewN ?_ _ | refine blk_drew ?_ | refine blk_alloc ?_ _)); exact BK141.out)) : gb141 ≠ gb151)); have n11_ := Aside0.mk ((by rw [hg]; exact Nat.ne_of_gt (blk_lt (g := gb141) (o := .cells #[.int .i64 0, .int .i64 0, .int .i64 0, .int .i64 0, .int .i64 0, .int .i64 0, .int .i64 0, .int .i64 0] 33 (0, 0)) (by (with_reducible repeat (first | refine blk_drewN ?_ _ | refine blk_drew ?_ | refine blk_alloc ?_ _)); exact BK141.out)) : gb151 ≠ gb141)); clear HO146; clear HO149; clear BK140; clear BK141; clear HB; have HO146 := n0_; have HO149 := n1_; have BK140 := n2_; have BK141 := n3_; have HB := n4_; have BK151 := n5_; have GW151 := n6_; have GE151 := n7_; have NB140_151 := n8_; have NB151_140 := n9_; have NB141_151 := n10_; have NB151_141 := n11_; clear n0_ n1_ n2_ n3_ n4_ n5_ n6_ n7_ n8_ n9_ n10_ n11_; clear hb hbox hg; have hnb12 := NB151_140.out; have hnc12 := NB140_151.out; have hnb13 := NB151_141.out; have hnc13 := NB141_151.out; have hcz14_0 : w11.cell? ⟨gb151, 0, none⟩ = some (.int .i64 0) := (blk_cell BK151.out 0).trans rfl; have hcz14_1 : w11.cell? ⟨gb151, 1, none⟩ = some (.int .i64 0) := (blk_cell BK151.out 1).trans rfl; have hcz14_2 : w11.cell? ⟨gb151, 2, none⟩ = some (.slice none 0 0) := (blk_cell BK151.out 2).trans rfl; have hfz14_0 := blk_frozen BK151.out 0; have hfz14_1 := blk_frozen BK151.out 1; have hfz14_2 := blk_frozen BK151.out 2; obtain ⟨Ao15, co15, eo15⟩ := Kd.R_slice HO146.out; subst eo15))
  (try simp only [Act.put, List.setIfInBounds_toArray, List.set_cons_zero, List.set_cons_succ])
  go_cut [34] (fun v34 wc => ∃ (kq : Nat) (x34_4 : Bool), v34 = .bool x34_4 ∧ Aside0 (spec_RollOverLabels.j0 kq a2 t147 x34_4 a1_0 a1_1 a1_2 a1_3 a1_4 a1_5 a1_6 a1_7 t142 t143 t144 = some (r1, r2, r3, r4, r5, r6, r7, r8, r9)) ∧ Aside0 (kq ≤ k) ∧ Aside0 (Kd.R (Kd.int .u8) 5 wc w.heap.size (fun k_ => some k_ ≠ ((.slice Ao15 t144.length co15) : Value).ownBlock) v148 t147) ∧ Aside0 (Kd.R (Kd.int .u8) 5 wc w.heap.size (fun k_ => some k_ ≠ (v148 : Value).ownBlock) (.slice Ao15 t144.length co15) t144) ∧ Aside0 (wc.heap[gb140]? = some (.cells #[.int .i64 a1_0, .int .i64 a1_1, .int .i64 a1_2, .int .i64 a1_3, .int .i64 a1_4, .int .i64 a1_5, .int .i64 a1_6, .int .i64 a1_7] 33 (0, 0))) ∧ Aside0 (wc.heap[gb141]? = some (.cells #[.int .i64 0, .int .i64 0, .int .i64 0, .int .i64 0, .int .i64 0, .int .i64 0, .int .i64 0, .int .i64 0] 33 (0, 0))) ∧ Aside0 (wc.heap[gb151]? = some (.cells #[.int .i64 t142, .int .i64 t143, (.slice Ao15 t144.length co15)] 44 (0, 0))) ∧ Aside0 (Below w.heap.size w wc))
  case first =>
    have H := HC5.out
    clear HC5
    by_cases c16 : t150 = true
    · subst c16
      have H1 : ((spec_diWord.f k a2).bind fun t152 => (if t152 = true then ((spec_prMatch.f t142 t143 t144 t147 a1_0 a1_1 a1_2 a1_3 a1_4 a1_5 a1_6 a1_7).bind fun t153 => (spec_RollOverLabels.j0 k a2 t147 (!t153) a1_0 a1_1 a1_2 a1_3 a1_4 a1_5 a1_6 a1_7 t142 t143 t144)) else (spec_RollOverLabels.j0 k a2 t147 true a1_0 a1_1 a1_2 a1_3 a1_4 a1_5 a1_6 a1_7 t142 t143 t144))) = some (r1, r2, r3, r4, r5, r6, r7, r8, r9) := by rw [if_pos rfl] at H; exact H
      clear H
      have H := H1
      clear H1
      replace H := Option.bind_eq_some_iff.mp H
      obtain ⟨t152, A170, H⟩ := H
      replace H : (if t152 = true then ((spec_prMatch.f t142 t143 t144 t147 a1_0 a1_1 a1_2 a1_3 a1_4 a1_5 a1_6 a1_7).bind fun t153 => (spec_RollOverLabels.j0 k a2 t147 (!t153) a1_0 a1_1 a1_2 a1_3 a1_4 a1_5 a1_6 a1_7 t142 t143 t144)) else (spec_RollOverLabels.j0 k a2 t147 true a1_0 a1_1 a1_2 a1_3 a1_4 a1_5 a1_6 a1_7 t142 t143 t144)) = some (r1, r2, r3, r4, r5, r6, r7, r8, r9) := H
      have A17 := Aside0.mk A170
      clear A170
      by_cases c18 : t152 = true
      · subst c18
        have H1 : ((spec_prMatch.f t142 t143 t144 t147 a1_0 a1_1 a1_2 a1_3 a1_4 a1_5 a1_6 a1_7).bind fun t153 => (spec_RollOverLabels.j0 k a2 t147 (!t153) a1_0 a1_1 a1_2 a1_3 a1_4 a1_5 a1_6 a1_7 t142 t143 t144)) = some (r1, r2, r3, r4, r5, r6, r7, r8, r9) := by rw [if_pos rfl] at H; exact H
        clear H
        have H := H1
        clear H1
        replace H := Option.bind_eq_some_iff.mp H
        obtain ⟨t153, A190, H⟩ := H
        replace H : (spec_RollOverLabels.j0 k a2 t147 (!t153) a1_0 a1_1 a1_2 a1_3 a1_4 a1_5 a1_6 a1_7 t142 t143 t144) = some (r1, r2, r3, r4, r5, r6, r7, r8, r9) := H
        have A19 := Aside0.mk A190
        clear A190
        have H' := Aside0.mk H
        clear H
        go_wp2_with (first | (go_at_call 32; (with_reducible refine (spec_diWord.calls k a2 true _ A17.out).mono ?_); rintro e w' ⟨rfl, ⟨nd, rfl⟩⟩; have hnb20 := NB151_140.out; have hnc20 := NB140_151.out; have hnb21 := NB151_141.out; have hnc21 := NB141_151.out; have hcz22_0 : w11.cell? ⟨gb151, 0, none⟩ = some (.int .i64 0) := (blk_cell BK151.out 0).trans rfl; have hcz22_1 : w11.cell? ⟨gb151, 1, none⟩ = some (.int .i64 0) := (blk_cell BK151.out 1).trans rfl; have hcz22_2 : w11.cell? ⟨gb151, 2, none⟩ = some (.slice none 0 0) := (blk_cell BK151.out 2).trans rfl; have hfz22_0 := blk_frozen BK151.out 0; have hfz22_1 := blk_frozen BK151.out 1; have hfz22_2 := blk_frozen BK151.out 2; have hnb23 := NB140_141.out; have hnc23 := NB141_140.out; have hcz24_0 : w11.cell? ⟨gb140, 0, none⟩ = some (.int .i64 a1_0) := (blk_cell BK140.out 0).trans rfl; have hcz24_1 : w11.cell? ⟨gb140, 1, none⟩ = some (.int .i64 a1_1) := (blk_cell BK140.out 1).trans rfl; have hcz24_2 : w11.cell? ⟨gb140, 2, none⟩ = some (.int .i64 a1_2) := (blk_cell BK140.out 2).trans rfl; have hcz24_3 : w11.cell? ⟨gb140, 3, none⟩ = some (.int .i64 a1_3) := (blk_cell BK140.out 3).trans rfl; have hcz24_4 : w11.cell? ⟨gb140, 4, none⟩ = some (.int .i64 a1_4) := (blk_cell BK140.out 4).trans rfl; have hcz24_5 : w11.cell? ⟨gb140, 5, none⟩ = some (.int .i64 a1_5) := (blk_cell BK140.out 5).trans rfl; have hcz24_6 : w11.cell? ⟨gb140, 6, none⟩ = some (.int .i64 a1_6) := (blk_cell BK140.out 6).trans rfl; have hcz24_7 : w11.cell? ⟨gb140, 7, none⟩ = some (.int .i64 a1_7) := (blk_cell BK140.out 7).trans rfl; have hfz24_0 := blk_frozen BK140.out 0; have hfz24_1 := blk_frozen BK140.out 1; have hfz24_2 := blk_frozen BK140.out 2; have hfz24_3 := blk_frozen BK140.out 3; have hfz24_4 := blk_frozen BK140.out 4; have hfz24_5 := blk_frozen BK140.out 5; have hfz24_6 := blk_frozen BK140.out 6; have hfz24_7 := blk_frozen BK140.out 7; obtain ⟨Ao25, co25, eo25⟩ := Kd.R_slice HO149.out; subst eo25) | (go_at_call 25; (with_reducible refine (spec_prMatch.calls t142 t143 _ _ t144 _ _ t147 a1_0 a1_1 a1_2 a1_3 a1_4 a1_5 a1_6 a1_7 t153 _ ?side1 ?side2 ?side3 ?side4 A19.out).mono ?_); (case side1 => refine (Kd.R_reads' (e := 5) (base := w.heap.size) (ok := fun k_ => some k_ ≠ (.slice Ao25 t147.length co25 : Value).ownBlock) (n := t144.length) (c := co15) ?_).2.2; exact (by (with_reducible repeat (first | apply Kd.R_alloc | apply Kd.R_drewN | apply Kd.R_drew)); exact (Kd.R_mono (Kd.R_far (p := ⟨gb151, 2, none⟩) (Kd.R_far (p := ⟨gb151, 1, none⟩) (Kd.R_far (p := ⟨gb151, 0, none⟩) (Kd.R_types HO146.out BK151.out (by decide)) (fun _ hk => hk.2) (.int .i64 t142)) (fun _ hk => hk.2) (.int .i64 t143)) (fun _ hk => hk.2) (.slice Ao15 t144.length co15)) (fun _ h_ => h_.1)))); (case side2 => exact (Kd.R_reads' HO146.out).2.1); (case side3 => refine (Kd.R_reads' (e := 5) (base := w.heap.size) (ok := fun k_ => some k_ ≠ (.slice Ao15 t144.length co15 : Value).ownBlock) (n := t147.length) (c := co25) ?_).2.2; exact (by (with_reducible repeat (first | apply Kd.R_alloc | apply Kd.R_drewN | apply Kd.R_drew)); exact (Kd.R_mono (Kd.R_far (p := ⟨gb151, 2, none⟩) (Kd.R_far (p := ⟨gb151, 1, none⟩) (Kd.R_far (p := ⟨gb151, 0, none⟩) (Kd.R_types HO149.out BK151.out (by decide)) (fun _ hk => hk.2) (.int .i64 t142)) (fun _ hk => hk.2) (.int .i64 t143)) (fun _ hk => hk.2) (.slice Ao15 t144.length co15)) (fun _ h_ => h_.1)))); (case side4 => exact (Kd.R_reads' HO149.out).2.1); rintro e w26 ⟨rfl, hb⟩; have n0_ := Aside0.mk (Kd.R_below (by (with_reducible repeat (first | apply Kd.R_alloc | apply Kd.R_drewN | apply Kd.R_drew)); exact (Kd.R_mono (Kd.R_far (p := ⟨gb151, 2, none⟩) (Kd.R_far (p := ⟨gb151, 1, none⟩) (Kd.R_far (p := ⟨gb151, 0, none⟩) (Kd.R_types HO146.out BK151.out (by decide)) (fun _ hk => hk.2) (.int .i64 t142)) (fun _ hk => hk.2) (.int .i64 t143)) (fun _ hk => hk.2) (.slice Ao15 t144.length co15)) (fun _ h_ => h_.1))) hb); have n1_ := Aside0.mk (Kd.R_below (by (with_reducible repeat (first | apply Kd.R_alloc | apply Kd.R_drewN | apply Kd.R_drew)); exact (Kd.R_mono (Kd.R_far (p := ⟨gb151, 2, none⟩) (Kd.R_far (p := ⟨gb151, 1, none⟩) (Kd.R_far (p := ⟨gb151, 0, none⟩) (Kd.R_types HO149.out BK151.out (by decide)) (fun _ hk => hk.2) (.int .i64 t142)) (fun _ hk => hk.2) (.int .i64 t143)) (fun _ hk => hk.2) (.slice Ao15 t144.length co15)) (fun _ h_ => h_.1))) hb); have n2_ := Aside0.mk (blk_below (g := gb140) (o := .cells #[.int .i64 a1_0, .int .i64 a1_1, .int .i64 a1_2, .int .i64 a1_3, .int .i64 a1_4, .int .i64 a1_5, .int .i64 a1_6, .int .i64 a1_7] 33 (0, 0)) (by (with_reducible repeat (first | refine blk_drewN ?_ _ | refine blk_drew ?_ | refine blk_alloc ?_ _)); refine blk_far ?_ NB140_151.out _; (with_reducible repeat (first | refine blk_drewN ?_ _ | refine blk_drew ?_ | refine blk_alloc ?_ _)); refine blk_far ?_ NB140_151.out _; (with_reducible repeat (first | refine blk_drewN ?_ _ | refine blk_drew ?_ | refine blk_alloc ?_ _)); refine blk_far ?_ NB140_151.out _; (with_reducible repeat (first | refine blk_drewN ?_ _ | refine blk_drew ?_ | refine blk_alloc ?_ _)); exact BK140.out) hb); have n3_ := Aside0.mk (blk_below (g := gb141) (o := .cells #[.int .i64 0, .int .i64 0, .int .i64 0, .int .i64 0, .int .i64 0, .int .i64 0, .int .i64 0, .int .i64 0] 33 (0, 0)) (by (with_reducible repeat (first | refine blk_drewN ?_ _ | refine blk_drew ?_ | refine blk_alloc ?_ _)); refine blk_far ?_ NB141_151.out _; (with_reducible repeat (first | refine blk_drewN ?_ _ | refine blk_drew ?_ | refine blk_alloc ?_ _)); refine blk_far ?_ NB141_151.out _; (with_reducible repeat (first | refine blk_drewN ?_ _ | refine blk_drew ?_ | refine blk_alloc ?_ _)); refine blk_far ?_ NB141_151.out _; (with_reducible repeat (first | refine blk_drewN ?_ _ | refine blk_drew ?_ | refine blk_alloc ?_ _)); exact BK141.out) hb); have n4_ := Aside0.mk (blk_below (g := gb151) (o := .cells #[.int .i64 t142, .int .i64 t143, .slice Ao15 t144.length co15] 44 (0, 0)) (by (with_reducible repeat (first | refine blk_drewN ?_ _ | refine blk_drew ?_ | refine blk_alloc ?_ _)); refine blk_put (cs := #[.int .i64 t142, .int .i64 t143, .slice none 0 0]) ?_ 2 _ rfl; (with_reducible repeat (first | refine blk_drewN ?_ _ | refine blk_drew ?_ | refine blk_alloc ?_ _)); refine blk_put (cs := #[.int .i64 t142, .int .i64 0, .slice none 0 0]) ?_ 1 _ rfl; (with_reducible repeat (first | refine blk_drewN ?_ _ | refine blk_drew ?_ | refine blk_alloc ?_ _)); refine blk_put (cs := #[.int .i64 0, .int .i64 0, .slice none 0 0]) ?_ 0 _ rfl; (with_reducible repeat (first | refine blk_drewN ?_ _ | refine blk_drew ?_ | refine blk_alloc ?_ _)); exact BK151.out) hb); have n5_ := Aside0.mk (below_step (by repeat (first | (with_reducible first | exact HB.out | apply below_alloc | apply pw_below_drewN | apply below_drew1 | refine below_set ?_ GE140.out | refine below_set ?_ GE141.out | refine below_set ?_ GE151.out) | exact HB.out)) hb); clear HO146; clear HO149; clear BK140; clear BK141; clear BK151; clear HB; have HO146 := n0_; have HO149 := n1_; have BK140 := n2_; have BK141 := n3_; have BK151 := n4_; have HB := n5_; clear n0_ n1_ n2_ n3_ n4_ n5_; (try clear hb); (try clear hb2); (try clear hk); (try clear hi)))
        go_meet
        case rel => exact ⟨_, (!t153), (by first | rfl | (simp; done) | (simp [*]; done)), H', ⟨by first | omega | exact Nat.le_refl _⟩, ⟨by (with_reducible repeat (first | apply Kd.R_alloc | apply Kd.R_drewN | apply Kd.R_drew)); exact HO149.out⟩, ⟨by (with_reducible repeat (first | apply Kd.R_alloc | apply Kd.R_drewN | apply Kd.R_drew)); exact HO146.out⟩, ⟨by (with_reducible repeat (first | refine blk_drewN ?_ _ | refine blk_drew ?_ | refine blk_alloc ?_ _)); exact BK140.out⟩, ⟨by (with_reducible repeat (first | refine blk_drewN ?_ _ | refine blk_drew ?_ | refine blk_alloc ?_ _)); exact BK141.out⟩, ⟨by (with_reducible repeat (first | refine blk_drewN ?_ _ | refine blk_drew ?_ | refine blk_alloc ?_ _)); exact BK151.out⟩, ⟨by repeat (first | (with_reducible first | exact HB.out | apply below_alloc | apply pw_below_drewN | apply below_drew1 | refine below_set ?_ GE140.out | refine below_set ?_ GE141.out | refine below_set ?_ GE151.out) | exact HB.out)⟩⟩
      · replace c18 := Bool.eq_false_iff.mpr c18
        subst c18
        have H1 : (spec_RollOverLabels.j0 k a2 t147 true a1_0 a1_1 a1_2 a1_3 a1_4 a1_5 a1_6 a1_7 t142 t143 t144) = some (r1, r2, r3, r4, r5, r6, r7, r8, r9) := by rw [if_neg (show ¬ (false = true) by decide)] at H; exact H
        clear H
        have H := H1
        clear H1
        have H' := Aside0.mk H
        clear H
        go_wp2_with (first | (go_at_call 32; (with_reducible refine (spec_diWord.calls k a2 false _ A17.out).mono ?_); rintro e w' ⟨rfl, ⟨nd, rfl⟩⟩))
        go_meet
        case rel => exact ⟨_, (true), (by first | rfl | (simp; done) | (simp [*]; done)), H', ⟨by first | omega | exact Nat.le_refl _⟩, ⟨by (with_reducible repeat (first | apply Kd.R_alloc | apply Kd.R_drewN | apply Kd.R_drew)); exact Kd.R_mono (Kd.R_far (p := ⟨gb151, 2, none⟩) (Kd.R_far (p := ⟨gb151, 1, none⟩) (Kd.R_far (p := ⟨gb151, 0, none⟩) (Kd.R_types HO149.out BK151.out (by decide)) (fun _ hk => hk.2) (.int .i64 t142)) (fun _ hk => hk.2) (.int .i64 t143)) (fun _ hk => hk.2) (.slice Ao15 t144.length co15)) (fun _ hk => hk.1)⟩, ⟨by (with_reducible repeat (first | apply Kd.R_alloc | apply Kd.R_drewN | apply Kd.R_drew)); exact Kd.R_mono (Kd.R_far (p := ⟨gb151, 2, none⟩) (Kd.R_far (p := ⟨gb151, 1, none⟩) (Kd.R_far (p := ⟨gb151, 0, none⟩) (Kd.R_types HO146.out BK151.out (by decide)) (fun _ hk => hk.2) (.int .i64 t142)) (fun _ hk => hk.2) (.int .i64 t143)) (fun _ hk => hk.2) (.slice Ao15 t144.length co15)) (fun _ hk => hk.1)⟩, ⟨by (with_reducible repeat (first | refine blk_drewN ?_ _ | refine blk_drew ?_ | refine blk_alloc ?_ _)); refine blk_far ?_ NB140_151.out _; (with_reducible repeat (first | refine blk_drewN ?_ _ | refine blk_drew ?_ | refine blk_alloc ?_ _)); refine blk_far ?_ NB140_151.out _; (with_reducible repeat (first | refine blk_drewN ?_ _ | refine blk_drew ?_ | refine blk_alloc ?_ _)); refine blk_far ?_ NB140_151.out _; (with_reducible repeat (first | refine blk_drewN ?_ _ | refine blk_drew ?_ | refine blk_alloc ?_ _)); exact BK140.out⟩, ⟨by (with_reducible repeat (first | refine blk_drewN ?_ _ | refine blk_drew ?_ | refine blk_alloc ?_ _)); refine blk_far ?_ NB141_151.out _; (with_reducible repeat (first | refine blk_drewN ?_ _ | refine blk_drew ?_ | refine blk_alloc ?_ _)); refine blk_far ?_ NB141_151.out _; (with_reducible repeat (first | refine blk_drewN ?_ _ | refine blk_drew ?_ | refine blk_alloc ?_ _)); refine blk_far ?_ NB141_151.out _; (with_reducible repeat (first | refine blk_drewN ?_ _ | refine blk_drew ?_ | refine blk_alloc ?_ _)); exact BK141.out⟩, ⟨by (with_reducible repeat (first | refine blk_drewN ?_ _ | refine blk_drew ?_ | refine blk_alloc ?_ _)); refine blk_put (cs := #[.int .i64 t142, .int .i64 t143, .slice none 0 0]) ?_ 2 _ rfl; (with_reducible repeat (first | refine blk_drewN ?_ _ | refine blk_drew ?_ | refine blk_alloc ?_ _)); refine blk_put (cs := #[.int .i64 t142, .int .i64 0, .slice none 0 0]) ?_ 1 _ rfl; (with_reducible repeat (first | refine blk_drewN ?_ _ | refine blk_drew ?_ | refine blk_alloc ?_ _)); refine blk_put (cs := #[.int .i64 0, .int .i64 0, .slice none 0 0]) ?_ 0 _ rfl; (with_reducible repeat (first | refine blk_drewN ?_ _ | refine blk_drew ?_ | refine blk_alloc ?_ _)); exact BK151.out⟩, ⟨by repeat (first | (with_reducible first | exact HB.out | apply below_alloc | apply pw_below_drewN | apply below_drew1 | refine below_set ?_ GE140.out | refine below_set ?_ GE141.out | refine below_set ?_ GE151.out) | exact HB.out)⟩⟩
    · replace c16 := Bool.eq_false_iff.mpr c16
      subst c16
      have H1 : (spec_RollOverLabels.j0 k a2 t147 true a1_0 a1_1 a1_2 a1_3 a1_4 a1_5 a1_6 a1_7 t142 t143 t144) = some (r1, r2, r3, r4, r5, r6, r7, r8, r9) := by rw [if_neg (show ¬ (false = true) by decide)] at H; exact H
      clear H
      have H := H1
      clear H1
      have H' := Aside0.mk H
      clear H
      go_wp2
      go_meet
      case rel => exact ⟨_, (true), (by first | rfl | (simp; done) | (simp [*]; done)), H', ⟨by first | omega | exact Nat.le_refl _⟩, ⟨by (with_reducible repeat (first | apply Kd.R_alloc | apply Kd.R_drewN | apply Kd.R_drew)); exact Kd.R_mono (Kd.R_far (p := ⟨gb151, 2, none⟩) (Kd.R_far (p := ⟨gb151, 1, none⟩) (Kd.R_far (p := ⟨gb151, 0, none⟩) (Kd.R_types HO149.out BK151.out (by decide)) (fun _ hk => hk.2) (.int .i64 t142)) (fun _ hk => hk.2) (.int .i64 t143)) (fun _ hk => hk.2) (.slice Ao15 t144.length co15)) (fun _ hk => hk.1)⟩, ⟨by (with_reducible repeat (first | apply Kd.R_alloc | apply Kd.R_drewN | apply Kd.R_drew)); exact Kd.R_mono (Kd.R_far (p := ⟨gb151, 2, none⟩) (Kd.R_far (p := ⟨gb151, 1, none⟩) (Kd.R_far (p := ⟨gb151, 0, none⟩) (Kd.R_types HO146.out BK151.out (by decide)) (fun _ hk => hk.2) (.int .i64 t142)) (fun _ hk => hk.2) (.int .i64 t143)) (fun _ hk => hk.2) (.slice Ao15 t144.length co15)) (fun _ hk => hk.1)⟩, ⟨by (with_reducible repeat (first | refine blk_drewN ?_ _ | refine blk_drew ?_ | refine blk_alloc ?_ _)); refine blk_far ?_ NB140_151.out _; (with_reducible repeat (first | refine blk_drewN ?_ _ | refine blk_drew ?_ | refine blk_alloc ?_ _)); refine blk_far ?_ NB140_151.out _; (with_reducible repeat (first | refine blk_drewN ?_ _ | refine blk_drew ?_ | refine blk_alloc ?_ _)); refine blk_far ?_ NB140_151.out _; (with_reducible repeat (first | refine blk_drewN ?_ _ | refine blk_drew ?_ | refine blk_alloc ?_ _)); exact BK140.out⟩, ⟨by (with_reducible repeat (first | refine blk_drewN ?_ _ | refine blk_drew ?_ | refine blk_alloc ?_ _)); refine blk_far ?_ NB141_151.out _; (with_reducible repeat (first | refine blk_drewN ?_ _ | refine blk_drew ?_ | refine blk_alloc ?_ _)); refine blk_far ?_ NB141_151.out _; (with_reducible repeat (first | refine blk_drewN ?_ _ | refine blk_drew ?_ | refine blk_alloc ?_ _)); refine blk_far ?_ NB141_151.out _; (with_reducible repeat (first | refine blk_drewN ?_ _ | refine blk_drew ?_ | refine blk_alloc ?_ _)); exact BK141.out⟩, ⟨by (with_reducible repeat (first | refine blk_drewN ?_ _ | refine blk_drew ?_ | refine blk_alloc ?_ _)); refine blk_put (cs := #[.int .i64 t142, .int .i64 t143, .slice none 0 0]) ?_ 2 _ rfl; (with_reducible repeat (first | refine blk_drewN ?_ _ | refine blk_drew ?_ | refine blk_alloc ?_ _)); refine blk_put (cs := #[.int .i64 t142, .int .i64 0, .slice none 0 0]) ?_ 1 _ rfl; (with_reducible repeat (first | refine blk_drewN ?_ _ | refine blk_drew ?_ | refine blk_alloc ?_ _)); refine blk_put (cs := #[.int .i64 0, .int .i64 0, .slice none 0 0]) ?_ 0 _ rfl; (with_reducible repeat (first | refine blk_drewN ?_ _ | refine blk_drew ?_ | refine blk_alloc ?_ _)); exact BK151.out⟩, ⟨by repeat (first | (with_reducible first | exact HB.out | apply below_alloc | apply pw_below_drewN | apply below_drew1 | refine below_set ?_ GE140.out | refine below_set ?_ GE141.out | refine below_set ?_ GE151.out) | exact HB.out)⟩⟩
  case rest =>
    clear HC5
    try clear c1
    try clear c2
    try clear p2
    try clear c8
    try clear c12
    try clear c13
    try clear c16
    try clear c17
    try clear c18
    try clear c20
    try clear c21
    try clear c23
    try clear c24
    try clear hcz14_0
    try clear hcz14_1
    try clear hcz14_2
    try clear hcz22_0
    try clear hcz22_1
    try clear hcz22_2
    try clear hcz24_0
    try clear hcz24_1
    try clear hcz24_2
    try clear hcz24_3
    try clear hcz24_4
    try clear hcz24_5
    try clear hcz24_6
    try clear hcz24_7
    try clear hcz9_0
    try clear hcz9_1
    try clear hcz9_2
    try clear hcz9_3
    try clear hcz9_4
    try clear hcz9_5
    try clear hcz9_6
    try clear hcz9_7
    try clear hfz14_0
    try clear hfz14_1
    try clear hfz14_2
    try clear hfz22_0
    try clear hfz22_1
    try clear hfz22_2
    try clear hfz24_0
    try clear hfz24_1
    try clear hfz24_2
    try clear hfz24_3
    try clear hfz24_4
    try clear hfz24_5
    try clear hfz24_6
    try clear hfz24_7
    try clear hfz9_0
    try clear hfz9_1
    try clear hfz9_2
    try clear hfz9_3
    try clear hfz9_4
    try clear hfz9_5
    try clear hfz9_6
    try clear hfz9_7
    obtain ⟨kq, x34_4, rfl, HA, HJ4, HO_9, HO_152002, BK140, BK141, BK151, HB⟩ := hcut
    cases kq with
    | zero => exact absurd HA.out (by simp [spec_RollOverLabels.j0])
    | succ kj4 =>
      have H := HA.out
      clear HA
      simp only [spec_RollOverLabels.j0] at H
      by_cases c27 : x34_4 = true
      · subst c27
        have H1 : (some (0, 0, 0, 0, 0, 0, 0, 0, false)) = some (r1, r2, r3, r4, r5, r6, r7, r8, r9) := by rw [if_pos rfl] at H; exact H
        clear H
        have H := H1
        clear H1
        simp only [Option.some.injEq, Prod.mk.injEq] at H
        obtain ⟨rfl, rfl, rfl, rfl, rfl, rfl, rfl, rfl, rfl⟩ := H
        have hnb28 := NB141_140.out
        have hnc28 := NB140_141.out
        have hnb29 := NB141_151.out
        have hnc29 := NB151_141.out
        have hcz30_0 : wc.cell? ⟨gb141, 0, none⟩ = some (.int .i64 0) := (blk_cell BK141.out 0).trans rfl
        have hcz30_1 : wc.cell? ⟨gb141, 1, none⟩ = some (.int .i64 0) := (blk_cell BK141.out 1).trans rfl
        have hcz30_2 : wc.cell? ⟨gb141, 2, none⟩ = some (.int .i64 0) := (blk_cell BK141.out 2).trans rfl
        have hcz30_3 : wc.cell? ⟨gb141, 3, none⟩ = some (.int .i64 0) := (blk_cell BK141.out 3).trans rfl
        have hcz30_4 : wc.cell? ⟨gb141, 4, none⟩ = some (.int .i64 0) := (blk_cell BK141.out 4).trans rfl
        have hcz30_5 : wc.cell? ⟨gb141, 5, none⟩ = some (.int .i64 0) := (blk_cell BK141.out 5).trans rfl
        have hcz30_6 : wc.cell? ⟨gb141, 6, none⟩ = some (.int .i64 0) := (blk_cell BK141.out 6).trans rfl
        have hcz30_7 : wc.cell? ⟨gb141, 7, none⟩ = some (.int .i64 0) := (blk_cell BK141.out 7).trans rfl
        have hfz30_0 := blk_frozen BK141.out 0
        have hfz30_1 := blk_frozen BK141.out 1
        have hfz30_2 := blk_frozen BK141.out 2
        have hfz30_3 := blk_frozen BK141.out 3
        have hfz30_4 := blk_frozen BK141.out 4
        have hfz30_5 := blk_frozen BK141.out 5
        have hfz30_6 := blk_frozen BK141.out 6
        have hfz30_7 := blk_frozen BK141.out 7
        go_wp2
        refine bodyPost_ret (results_ct rfl _ _ gb141 33 #[.int .i64 0, .int .i64 0, .int .i64 0, .int .i64 0, .int .i64 0, .int .i64 0, .int .i64 0, .int .i64 0] (0, 0) _ rfl (by (with_reducible repeat (first | refine blk_drewN ?_ _ | refine blk_drew ?_ | refine blk_alloc ?_ _)); refine blk_put (cs := #[.int .i64 0, .int .i64 0, .int .i64 0, .int .i64 0, .int .i64 0, .int .i64 0, .int .i64 0, .int .i64 0]) ?_ 7 _ rfl; (with_reducible repeat (first | refine blk_drewN ?_ _ | refine blk_drew ?_ | refine blk_alloc ?_ _)); refine blk_put (cs := #[.int .i64 0, .int .i64 0, .int .i64 0, .int .i64 0, .int .i64 0, .int .i64 0, .int .i64 0, .int .i64 0]) ?_ 6 _ rfl; (with_reducible repeat (first | refine blk_drewN ?_ _ | refine blk_drew ?_ | refine blk_alloc ?_ _)); refine blk_put (cs := #[.int .i64 0, .int .i64 0, .int .i64 0, .int .i64 0, .int .i64 0, .int .i64 0, .int .i64 0, .int .i64 0]) ?_ 5 _ rfl; (with_reducible repeat (first | refine blk_drewN ?_ _ | refine blk_drew ?_ | refine blk_alloc ?_ _)); refine blk_put (cs := #[.int .i64 0, .int .i64 0, .int .i64 0, .int .i64 0, .int .i64 0, .int .i64 0, .int .i64 0, .int .i64 0]) ?_ 4 _ rfl; (with_reducible repeat (first | refine blk_drewN ?_ _ | refine blk_drew ?_ | refine blk_alloc ?_ _)); refine blk_put (cs := #[.int .i64 0, .int .i64 0, .int .i64 0, .int .i64 0, .int .i64 0, .int .i64 0, .int .i64 0, .int .i64 0]) ?_ 3 _ rfl; (with_reducible repeat (first | refine blk_drewN ?_ _ | refine blk_drew ?_ | refine blk_alloc ?_ _)); refine blk_put (cs := #[.int .i64 0, .int .i64 0, .int .i64 0, .int .i64 0, .int .i64 0, .int .i64 0, .int .i64 0, .int .i64 0]) ?_ 2 _ rfl; (with_reducible repeat (first | refine blk_drewN ?_ _ | refine blk_drew ?_ | refine blk_alloc ?_ _)); refine blk_put (cs := #[.int .i64 0, .int .i64 0, .int .i64 0, .int .i64 0, .int .i64 0, .int .i64 0, .int .i64 0, .int .i64 0]) ?_ 1 _ rfl; (with_reducible repeat (first | refine blk_drewN ?_ _ | refine blk_drew ?_ | refine blk_alloc ?_ _)); refine blk_put (cs := #[.int .i64 0, .int .i64 0, .int .i64 0, .int .i64 0, .int .i64 0, .int .i64 0, .int .i64 0, .int .i64 0]) ?_ 0 _ rfl; (with_reducible repeat (first | refine blk_drewN ?_ _ | refine blk_drew ?_ | refine blk_alloc ?_ _)); exact BK141.out) Tryd.underlying33 rfl (by kernel_rfl)) rfl ?_
        exact ⟨by first | rfl | (simp [errW_none, errW_some] <;> rfl) | (simp [*, errW_none, errW_some] <;> rfl), by repeat (first | (with_reducible first | exact HB.out | apply below_alloc | apply pw_below_drewN | apply below_drew1 | refine below_set ?_ GE140.out | refine below_set ?_ GE141.out | refine below_set ?_ GE151.out) | exact HB.out)⟩
      · replace c27 := Bool.eq_false_iff.mpr c27
        subst c27
        have H1 : (spec_RollOverLabels.l0 kj4 a2 t147 0 a1_0 a1_1 a1_2 a1_3 a1_4 a1_5 a1_6 a1_7 t142 t143 t144) = some (r1, r2, r3, r4, r5, r6, r7, r8, r9) := by rw [if_neg (show ¬ (false = true) by decide)] at H; exact H
        clear H
        have H := H1
        clear H1
        have H' := Aside0.mk H
        clear H
        go_wp2
        go_loopg [11] kj4 (fun kq v11 w' => ∃ (x11_2 : Int) (x141000_2 : Int) (x141001_2 : Int) (x141002_2 : Int) (x141003_2 : Int) (x141004_2 : Int) (x141005_2 : Int) (x141006_2 : Int) (x141007_2 : Int) (x142000_2 : Int) (x142001_2 : Int) (x142002_2 : Int) (x142003_2 : Int) (x142004_2 : Int) (x142005_2 : Int) (x142006_2 : Int) (x142007_2 : Int), v11 = .int .i64 x11_2 ∧ Aside0 (spec_RollOverLabels.l0 kq a2 t147 x11_2 x141000_2 x141001_2 x141002_2 x141003_2 x141004_2 x141005_2 x141006_2 x141007_2 t142 t143 t144 = some (r1, r2, r3, r4, r5, r6, r7, r8, r9)) ∧ Aside0 (kq ≤ kj4) ∧ Aside0 (Kd.R (Kd.int .u8) 5 w' w.heap.size (fun k_ => some k_ ≠ ((.slice Ao15 t144.length co15) : Value).ownBlock) v148 t147) ∧ Aside0 (Kd.R (Kd.int .u8) 5 w' w.heap.size (fun k_ => some k_ ≠ (v148 : Value).ownBlock) (.slice Ao15 t144.length co15) t144) ∧ Aside0 (w'.heap[gb140]? = some (.cells #[.int .i64 x141000_2, .int .i64 x141001_2, .int .i64 x141002_2, .int .i64 x141003_2, .int .i64 x141004_2, .int .i64 x141005_2, .int .i64 x141006_2, .int .i64 x141007_2] 33 (0, 0))) ∧ Aside0 (w'.heap[gb141]? = some (.cells #[.int .i64 x142000_2, .int .i64 x142001_2, .int .i64 x142002_2, .int .i64 x142003_2, .int .i64 x142004_2, .int .i64 x142005_2, .int .i64 x142006_2, .int .i64 x142007_2] 33 (0, 0))) ∧ Aside0 (w'.heap[gb151]? = some (.cells #[.int .i64 t142, .int .i64 t143, (.slice Ao15 t144.length co15)] 44 (0, 0))) ∧ Aside0 (Below w.heap.size w w'))
        case atStart => exact ⟨(0), (a1_0), (a1_1), (a1_2), (a1_3), (a1_4), (a1_5), (a1_6), (a1_7), (0), (0), (0), (0), (0), (0), (0), (0), (by first | rfl | (simp; done) | (simp [*]; done)), H', ⟨Nat.le_refl _⟩, ⟨by (with_reducible repeat (first | apply Kd.R_alloc | apply Kd.R_drewN | apply Kd.R_drew)); exact HO_9.out⟩, ⟨by (with_reducible repeat (first | apply Kd.R_alloc | apply Kd.R_drewN | apply Kd.R_drew)); exact HO_152002.out⟩, ⟨by (with_reducible repeat (first | refine blk_drewN ?_ _ | refine blk_drew ?_ | refine blk_alloc ?_ _)); exact BK140.out⟩, ⟨by (with_reducible repeat (first | refine blk_drewN ?_ _ | refine blk_drew ?_ | refine blk_alloc ?_ _)); exact BK141.out⟩, ⟨by (with_reducible repeat (first | refine blk_drewN ?_ _ | refine blk_drew ?_ | refine blk_alloc ?_ _)); exact BK151.out⟩, ⟨by repeat (first | (with_reducible first | exact HB.out | apply below_alloc | apply pw_below_drewN | apply below_drew1 | refine below_set ?_ GE140.out | refine below_set ?_ GE141.out | refine below_set ?_ GE151.out) | exact HB.out)⟩⟩
        case round =>
          clear H'
          try clear c1
          try clear c2
          try clear p2
          try clear c8
          try clear c12
          try clear c13
          try clear c16
          try clear c17
          try clear c18
          try clear c20
          try clear c21
          try clear c23
          try clear c24
          try clear c27
          try clear c28
          try clear c29
          try clear hcz14_0
          try clear hcz14_1
          try clear hcz14_2
          try clear hcz22_0
          try clear hcz22_1
          try clear hcz22_2
          try clear hcz24_0
          try clear hcz24_1
          try clear hcz24_2
          try clear hcz24_3
          try clear hcz24_4
          try clear hcz24_5
          try clear hcz24_6
          try clear hcz24_7
          try clear hcz30_0
          try clear hcz30_1
          try clear hcz30_2
          try clear hcz30_3
          try clear hcz30_4
          try clear hcz30_5
          try clear hcz30_6
          try clear hcz30_7
          try clear hcz9_0
          try clear hcz9_1
          try clear hcz9_2
          try clear hcz9_3
          try clear hcz9_4
          try clear hcz9_5
          try clear hcz9_6
          try clear hcz9_7
          try clear hfz14_0
          try clear hfz14_1
          try clear hfz14_2
          try clear hfz22_0
          try clear hfz22_1
          try clear hfz22_2
          try clear hfz24_0
          try clear hfz24_1
          try clear hfz24_2
          try clear hfz24_3
          try clear hfz24_4
          try clear hfz24_5
          try clear hfz24_6
          try clear hfz24_7
          try clear hfz30_0
          try clear hfz30_1
          try clear hfz30_2
          try clear hfz30_3
          try clear hfz30_4
          try clear hfz30_5
          try clear hfz30_6
          try clear hfz30_7
          try clear hfz9_0
          try clear hfz9_1
          try clear hfz9_2
          try clear hfz9_3
          try clear hfz9_4
          try clear hfz9_5
          try clear hfz9_6
          try clear hfz9_7
          try clear p2
          obtain ⟨x11_2, x141000_2, x141001_2, x141002_2, x141003_2, x141004_2, x141005_2, x141006_2, x141007_2, x142000_2, x142001_2, x142002_2, x142003_2, x142004_2, x142005_2, x142006_2, x142007_2, rfl, HA, HK2, HO_9, HO_152002, BK140, BK141, BK151, HB⟩ := hrel
          cases gk with
          | zero => exact absurd HA.out (by simp [spec_RollOverLabels.l0])
          | succ k2 =>
            have H := HA.out
            clear HA
            simp only [spec_RollOverLabels.l0] at H
            by_cases c31 : x11_2 < (a2.size : Int)
            · rw [if_pos c31] at H
              have c31b0 : decide (x11_2 < (a2.size : Int)) = true := decide_eq_true c31
              clear c31
              by_cases c32 : 0 ≤ x11_2
              · rw [if_pos c32] at H
                have c32b0 := eq_true c32
                have c32b1 : decide (0 ≤ x11_2) = true := decide_eq_true c32
                clear c32
                by_cases c33 : x11_2 ≤ (wrap64 (x11_2 + 1))
                · rw [if_pos c33] at H
                  have c33b0 := eq_true c33
                  have c33b1 : decide (x11_2 ≤ (wrap64 (x11_2 + 1))) = true := decide_eq_true c33
                  by_cases c34 : (wrap64 (x11_2 + 1)) ≤ (a2.size : Int)
                  · rw [if_pos c34] at H
                    have c34b0 := eq_true c34
                    have c34b1 : decide ((wrap64 (x11_2 + 1)) ≤ (a2.size : Int)) = true := decide_eq_true c34
                    replace H := Option.bind_eq_some_iff.mp H
                    obtain ⟨t154, A350, H⟩ := H
                    replace H : ((spec_prRoll.f t142 t143 t144 t147 x141000_2 x141001_2 x141002_2 x141003_2 x141004_2 x141005_2 x141006_2 x141007_2 t154).bind fun bt155 => (if bt155.2.2.2.2.2.2.2.2 = true then (spec_RollOverLabels.l0 k2 a2 t147 (wrap64 (x11_2 + 1)) bt155.1 bt155.2.1 bt155.2.2.1 bt155.2.2.2.1 bt155.2.2.2.2.1 bt155.2.2.2.2.2.1 bt155.2.2.2.2.2.2.1 bt155.2.2.2.2.2.2.2.1 t142 t143 t144) else (some (0, 0, 0, 0, 0, 0, 0, 0, false)))) = some (r1, r2, r3, r4, r5, r6, r7, r8, r9) := H
                    have A35 := Aside0.mk A350
                    clear A350
                    replace H := Option.bind_eq_some_iff.mp H
                    obtain ⟨⟨t155, t156, t157, t158, t159, t160, t161, t162, t163⟩, A360, H⟩ := H
                    replace H : (if t163 = true then (spec_RollOverLabels.l0 k2 a2 t147 (wrap64 (x11_2 + 1)) t155 t156 t157 t158 t159 t160 t161 t162 t142 t143 t144) else (some (0, 0, 0, 0, 0, 0, 0, 0, false))) = some (r1, r2, r3, r4, r5, r6, r7, r8, r9) := H
                    have A36 := Aside0.mk A360
                    clear A360
                    by_cases c37 : t163 = true
                    · subst c37
                      have H1 : (spec_RollOverLabels.l0 k2 a2 t147 (wrap64 (x11_2 + 1)) t155 t156 t157 t158 t159 t160 t161 t162 t142 t143 t144) = some (r1, r2, r3, r4, r5, r6, r7, r8, r9) := by rw [if_pos rfl] at H; exact H
                      clear H
                      have H := H1
                      clear H1
                      have H' := Aside0.mk H
                      clear H
                      obtain ⟨Ao38, co38, eo38⟩ := Kd.R_slice HO_9.out
                      subst eo38
                      try go_wp2
                      have n0_ := Aside0.mk (Kd.R_drew HO_9.out)
                      have n1_ := Aside0.mk (Kd.R_drew HO_152002.out)
                      have n2_ := Aside0.mk (blk_drew BK140.out)
                      have n3_ := Aside0.mk (blk_drew BK141.out)
                      have n4_ := Aside0.mk (blk_drew BK151.out)
                      have n5_ := Aside0.mk (below_drew1 HB.out)
                      clear HO_9
                      clear HO_152002
                      clear BK140
                      clear BK141
                      clear BK151
                      clear HB
                      have HO_9 := n0_
                      have HO_152002 := n1_
                      have BK140 := n2_
                      have BK141 := n3_
                      have BK151 := n4_
                      have HB := n5_
                      clear n0_ n1_ n2_ n3_ n4_ n5_
                      refine start_ (n := 16) (S := fun w' => w'.cell? ⟨gb151, 0, none⟩ = some (.int .i64 t142) ∧ w'.cell? ⟨gb151, 1, none⟩ = some (.int .i64 t143) ∧ w'.cell? ⟨gb151, 2, none⟩ = some (.slice Ao15 t144.length co15) ∧ w'.cell? ⟨gb140, 0, none⟩ = some (.int .i64 x141000_2) ∧ w'.cell? ⟨gb140, 1, none⟩ = some (.int .i64 x141001_2) ∧ w'.cell? ⟨gb140, 2, none⟩ = some (.int .i64 x141002_2) ∧ w'.cell? ⟨gb140, 3, none⟩ = some (.int .i64 x141003_2) ∧ w'.cell? ⟨gb140, 4, none⟩ = some (.int .i64 x141004_2) ∧ w'.cell? ⟨gb140, 5, none⟩ = some (.int .i64 x141005_2) ∧ w'.cell? ⟨gb140, 6, none⟩ = some (.int .i64 x141006_2) ∧ w'.cell? ⟨gb140, 7, none⟩ = some (.int .i64 x141007_2)) (ds := []) #[false, false, false, false, false, false, false, false, false, false, false, false, false, false, false, false] (by kernel_rfl) rfl rfl ⟨(blk_cell BK151.out 0).trans rfl, (blk_cell BK151.out 1).trans rfl, (blk_cell BK151.out 2).trans rfl, (blk_cell BK140.out 0).trans rfl, (blk_cell BK140.out 1).trans rfl, (blk_cell BK140.out 2).trans rfl, (blk_cell BK140.out 3).trans rfl, (blk_cell BK140.out 4).trans rfl, (blk_cell BK140.out 5).trans rfl, (blk_cell BK140.out 6).trans rfl, (blk_cell BK140.out 7).trans rfl⟩ (fun hHeld => ?_); refine with_tabW spec_RollOverLabels.tab7 spec_RollOverLabels.bits7 (fun HT_ HW_ => ?_)
                      generalize wr.drew = w39 at HO_9 HO_152002 BK140 BK141 BK151 HB hHeld ⊢
                      refine pure_ (i := 1) (N := some 44) (v := ?_) (a' := ?_) #[false, true, false, false, false, false, false, false, false, false, false, false, false, false, false, false] rfl rfl (any_of HT_.out (by kernel_rfl)) (fun _ _ _ h => h) (Or.inl ⟨by rfl, ?_⟩) ?_ ?_
                      rotate_left
                      · intro w'
                        go_simp
                        with_reducible rfl
                      rotate_left
                      · simp only [Act.put, List.setIfInBounds_toArray, List.set_cons_zero, List.set_cons_succ, i64_w, i32_w]
                        rfl
                      refine pure_ (i := 3) (N := some 46) (v := ?_) (a' := ?_) #[false, true, false, true, false, false, false, false, false, false, false, false, false, false, false, false] rfl rfl (any_of HT_.out (by kernel_rfl)) (fun _ _ _ h => h) (Or.inl ⟨by rfl, ?_⟩) ?_ ?_
                      rotate_left
                      · intro w'
                        go_simp
                        with_reducible rfl
                      rotate_left
                      · simp only [Act.put, List.setIfInBounds_toArray, List.set_cons_zero, List.set_cons_succ, i64_w, i32_w]
                        rfl
                      refine pure_ (i := 4) (N := some 47) (v := ?_) (a' := ?_) #[false, true, false, true, true, false, false, false, false, false, false, false, false, false, false, false] rfl rfl (any_of HT_.out (by kernel_rfl)) (fun _ _ _ h => h) (Or.inl ⟨by rfl, ?_⟩) ?_ ?_
                      rotate_left
                      · intro w'
                        go_simp
                        with_reducible rfl
                      rotate_left
                      · simp only [Act.put, List.setIfInBounds_toArray, List.set_cons_zero, List.set_cons_succ, i64_w, i32_w]
                        rfl
                      refine pure_ (i := 5) (N := some 48) (v := ?_) (a' := ?_) #[false, true, false, true, true, true, false, false, false, false, false, false, false, false, false, false] rfl rfl (any_of HT_.out (by kernel_rfl)) (fun _ _ _ h => h) (Or.inl ⟨by rfl, ?_⟩) ?_ ?_
                      rotate_left
                      · intro w'
                        go_simp
                        with_reducible rfl
                      rotate_left
                      · simp only [Act.put, List.setIfInBounds_toArray, List.set_cons_zero, List.set_cons_succ, i64_w, i32_w]
                        rfl
                      refine pure_ (i := 6) (N := some 49) (v := ?_) (a' := ?_) #[false, true, false, true, true, true, true, false, false, false, false, false, false, false, false, false] rfl rfl (any_of HT_.out (by kernel_rfl)) (fun _ _ _ h => h) (Or.inl ⟨by rfl, ?_⟩) ?_ ?_
                      rotate_left
                      · intro w'
                        go_simp
                        with_reducible rfl
                      rotate_left
                      · simp only [Act.put, List.setIfInBounds_toArray, List.set_cons_zero, List.set_cons_succ, i64_w, i32_w]
                        rfl
                      refine pure_ (i := 7) (N := some 50) (v := ?_) (a' := ?_) #[false, true, false, true, true, true, true, true, false, false, false, false, false, false, false, false] rfl rfl (any_of HT_.out (by kernel_rfl)) (fun _ _ _ h => h) (Or.inl ⟨by rfl, ?_⟩) ?_ ?_
                      rotate_left
                      · intro w'
                        go_simp
                        with_reducible rfl
                      rotate_left
                      · simp only [Act.put, List.setIfInBounds_toArray, List.set_cons_zero, List.set_cons_succ, i64_w, i32_w]
                        rfl
                      refine take_ (i := 0) (N := some 43) (v := ?_) (a' := ?_) #[true, true, false, true, true, true, true, true, false, false, false, false, false, false, false, false] rfl rfl (take_ofW HT_.out HW_.out (by kernel_rfl)) (fun _ _ _ h => h) (Or.inl ⟨by rfl, ?_⟩) hHeld ?_ ?_
                      rotate_left
                      · rintro w' ⟨s0, s1, s2, s3, s4, s5, s6, s7, s8, s9, s10⟩
                        go_simp
                        with_reducible rfl
                      rotate_left
                      · simp only [Act.put, List.setIfInBounds_toArray, List.set_cons_zero, List.set_cons_succ, i64_w, i32_w]
                        rfl
                      refine take_ (i := 2) (N := some 45) (v := ?_) (a' := ?_) #[true, true, true, true, true, true, true, true, false, false, false, false, false, false, false, false] rfl rfl (take_ofW HT_.out HW_.out (by kernel_rfl)) (fun _ _ _ h => h) (Or.inl ⟨by rfl, ?_⟩) hHeld ?_ ?_
                      rotate_left
                      · rintro w' ⟨s0, s1, s2, s3, s4, s5, s6, s7, s8, s9, s10⟩
                        go_simp
                        with_reducible rfl
                      rotate_left
                      · simp only [Act.put, List.setIfInBounds_toArray, List.set_cons_zero, List.set_cons_succ, i64_w, i32_w]
                        rfl
                      refine join_ (σ := Nat) 2 #[true, true, true, true, true, true, true, true, true, true, true, true, true, true, false, false] (fun s_ => [(51, .int .i64 t154), (52, .tuple #[.agg #[.int .i64 t155, .int .i64 t156, .int .i64 t157, .int .i64 t158, .int .i64 t159, .int .i64 t160, .int .i64 t161, .int .i64 t162], .bool true]), (12, .pointer (some ⟨s_, 0, none⟩)), (42, .tuple #[.agg #[.int .i64 t155, .int .i64 t156, .int .i64 t157, .int .i64 t158, .int .i64 t159, .int .i64 t160, .int .i64 t161, .int .i64 t162], .bool true]), (53, .agg #[.int .i64 t155, .int .i64 t156, .int .i64 t157, .int .i64 t158, .int .i64 t159, .int .i64 t160, .int .i64 t161, .int .i64 t162]), (54, .bool true)]) (fun s_ w' => (w'.cell? ⟨gb151, 0, none⟩ = some (.int .i64 t142) ∧ w'.cell? ⟨gb151, 1, none⟩ = some (.int .i64 t143) ∧ w'.cell? ⟨gb151, 2, none⟩ = some (.slice Ao15 t144.length co15) ∧ w'.cell? ⟨gb140, 0, none⟩ = some (.int .i64 x141000_2) ∧ w'.cell? ⟨gb140, 1, none⟩ = some (.int .i64 x141001_2) ∧ w'.cell? ⟨gb140, 2, none⟩ = some (.int .i64 x141002_2) ∧ w'.cell? ⟨gb140, 3, none⟩ = some (.int .i64 x141003_2) ∧ w'.cell? ⟨gb140, 4, none⟩ = some (.int .i64 x141004_2) ∧ w'.cell? ⟨gb140, 5, none⟩ = some (.int .i64 x141005_2) ∧ w'.cell? ⟨gb140, 6, none⟩ = some (.int .i64 x141006_2) ∧ w'.cell? ⟨gb140, 7, none⟩ = some (.int .i64 x141007_2)) ∧ (Kd.R (Kd.int .u8) 5 w' w.heap.size (fun k_ => some k_ ≠ (.slice Ao38 t147.length co38 : Value).ownBlock) (.slice Ao15 t144.length co15) t144) ∧ (Kd.R (Kd.int .u8) 5 w' w.heap.size (fun k_ => some k_ ≠ (.slice Ao15 t144.length co15 : Value).ownBlock) (.slice Ao38 t147.length co38) t147) ∧ (w'.heap[gb140]? = some (.cells #[.int .i64 x141000_2, .int .i64 x141001_2, .int .i64 x141002_2, .int .i64 x141003_2, .int .i64 x141004_2, .int .i64 x141005_2, .int .i64 x141006_2, .int .i64 x141007_2] 33 (0, 0))) ∧ (w'.heap[gb141]? = some (.cells #[.int .i64 x142000_2, .int .i64 x142001_2, .int .i64 x142002_2, .int .i64 x142003_2, .int .i64 x142004_2, .int .i64 x142005_2, .int .i64 x142006_2, .int .i64 x142007_2] 33 (0, 0))) ∧ (w'.heap[gb151]? = some (.cells #[.int .i64 t142, .int .i64 t143, .slice Ao15 t144.length co15] 44 (0, 0))) ∧ (w'.heap[s_]? = some (.cells #[.int .i64 0, .int .i64 0, .int .i64 0, .int .i64 0, .int .i64 0, .int .i64 0, .int .i64 0, .int .i64 0] 33 (0, 0))) ∧ (w.heap.size ≤ s_) ∧ (w.heap.size ≤ s_) ∧ (gb140 ≠ s_) ∧ (s_ ≠ gb140) ∧ (gb141 ≠ s_) ∧ (s_ ≠ gb141) ∧ (gb151 ≠ s_) ∧ (s_ ≠ gb151) ∧ (Below w.heap.size w w')) ?_ ?_
                      rotate_left
                      · intro hCont
                        refine two_ (i := 8) (j := 13) (Ni := some 51) (Nj := some 12) #[true, true, true, true, true, true, true, true, true, false, false, false, false, false, false, false] #[true, true, true, true, true, true, true, true, false, false, false, false, false, true, false, false] rfl rfl rfl rfl (two_of HT_.out (by kernel_rfl)) (by decide) (by decide) (fun K hK => ?_) (fun K hK => ?_)
                        · skip
                          refine goes_ Tryd.func33 (by kernel_rfl) rfl #[.string (a2.extract (x11_2 : Int).toNat ((wrap64 (x11_2 + 1)) : Int).toNat)] (by rfl) rfl rfl (by (try simp only [List.map_toArray, List.map_cons, List.map_nil]); first | done | rfl | (simp only [List.length_drop, List.length_take]; rfl)) ?_
                          with_reducible refine (spec_diDir.calls k2 (a2.extract (x11_2 : Int).toNat ((wrap64 (x11_2 + 1)) : Int).toNat) t154 _ A35.out).mono ?_
                          rintro e w' ⟨rfl, ⟨nd, rfl⟩⟩
                          refine ⟨_, rfl, ?_⟩
                          refine hK.out _ _ ⟨(blk_cell BK151.out 0).trans rfl, (blk_cell BK151.out 1).trans rfl, (blk_cell BK151.out 2).trans rfl, (blk_cell BK140.out 0).trans rfl, (blk_cell BK140.out 1).trans rfl, (blk_cell BK140.out 2).trans rfl, (blk_cell BK140.out 3).trans rfl, (blk_cell BK140.out 4).trans rfl, (blk_cell BK140.out 5).trans rfl, (blk_cell BK140.out 6).trans rfl, (blk_cell BK140.out 7).trans rfl⟩ (fun hHeld => ?_)
                          clear hK K
                          refine norm_ (a' := ?_) ?_ ?_
                          rotate_left
                          · show Act.put _ (some 51) _ = _
                            simp only [Act.put, List.setIfInBounds_toArray, List.set_cons_zero, List.set_cons_succ, i64_w, i32_w]
                            rfl
                          refine two_ (i := 9) (j := 13) (Ni := some 52) (Nj := some 12) #[true, true, true, true, true, true, true, true, true, true, false, false, false, false, false, false] #[true, true, true, true, true, true, true, true, true, false, false, false, false, true, false, false] rfl rfl rfl rfl (two_of HT_.out (by kernel_rfl)) (by decide) (by decide) (fun K hK => ?_) (fun K hK => ?_)
                          · skip
                            refine goes_ Tryd.func29 (by kernel_rfl) rfl #[.agg #[.int .i64 t142, .int .i64 t143, .slice Ao15 t144.length co15], .slice Ao38 t147.length co38, .agg #[.int .i64 x141000_2, .int .i64 x141001_2, .int .i64 x141002_2, .int .i64 x141003_2, .int .i64 x141004_2, .int .i64 x141005_2, .int .i64 x141006_2, .int .i64 x141007_2], .int .i64 t154] (by rfl) rfl rfl (by (try simp only [List.map_toArray, List.map_cons, List.map_nil]); first | done | rfl | (simp only [List.length_drop, List.length_take]; rfl)) ?_
                            with_reducible refine (spec_prRoll.calls t142 t143 _ _ t144 _ _ t147 x141000_2 x141001_2 x141002_2 x141003_2 x141004_2 x141005_2 x141006_2 x141007_2 t154 t155 t156 t157 t158 t159 t160 t161 t162 true _ ?side1 ?side2 ?side3 ?side4 A36.out).mono ?_
                            (case side1 => repeat (first | exact (Kd.R_reads' HO_152002.out).2.2 | (with_reducible refine Kd.C_alloc ?_ _) | (with_reducible refine Kd.C_drewN ?_ _) | (with_reducible refine Kd.C_drew ?_)))
                            (case side2 => exact (Kd.R_reads' HO_152002.out).2.1)
                            (case side3 => repeat (first | exact (Kd.R_reads' HO_9.out).2.2 | (with_reducible refine Kd.C_alloc ?_ _) | (with_reducible refine Kd.C_drewN ?_ _) | (with_reducible refine Kd.C_drew ?_)))
                            (case side4 => exact (Kd.R_reads' HO_9.out).2.1)
                            rintro e w40 ⟨rfl, hb⟩
                            refine ⟨_, rfl, ?_⟩
                            have n0_ := Aside0.mk (Kd.R_below (by (with_reducible repeat (first | apply Kd.R_alloc | apply Kd.R_drewN | apply Kd.R_drew)); exact HO_9.out) hb)
                            have n1_ := Aside0.mk (Kd.R_below (by (with_reducible repeat (first | apply Kd.R_alloc | apply Kd.R_drewN | apply Kd.R_drew)); exact HO_152002.out) hb)
                            have n2_ := Aside0.mk (blk_below (g := gb140) (o := .cells #[.int .i64 x141000_2, .int .i64 x141001_2, .int .i64 x141002_2, .int .i64 x141003_2, .int .i64 x141004_2, .int .i64 x141005_2, .int .i64 x141006_2, .int .i64 x141007_2] 33 (0, 0)) (by (with_reducible repeat (first | refine blk_drewN ?_ _ | refine blk_drew ?_ | refine blk_alloc ?_ _)); exact BK140.out) hb)
                            have n3_ := Aside0.mk (blk_below (g := gb141) (o := .cells #[.int .i64 x142000_2, .int .i64 x142001_2, .int .i64 x142002_2, .int .i64 x142003_2, .int .i64 x142004_2, .int .i64 x142005_2, .int .i64 x142006_2, .int .i64 x142007_2] 33 (0, 0)) (by (with_reducible repeat (first | refine blk_drewN ?_ _ | refine blk_drew ?_ | refine blk_alloc ?_ _)); exact BK141.out) hb)
                            have n4_ := Aside0.mk (blk_below (g := gb151) (o := .cells #[.int .i64 t142, .int .i64 t143, .slice Ao15 t144.length co15] 44 (0, 0)) (by (with_reducible repeat (first | refine blk_drewN ?_ _ | refine blk_drew ?_ | refine blk_alloc ?_ _)); exact BK151.out) hb)
                            have n5_ := Aside0.mk (below_step (by repeat (first | (with_reducible first | exact HB.out | apply below_alloc | apply pw_below_drewN | apply below_drew1 | refine below_set ?_ GE140.out | refine below_set ?_ GE141.out | refine below_set ?_ GE151.out) | exact HB.out)) hb)
                            clear HO_9
                            clear HO_152002
                            clear BK140
                            clear BK141
                            clear BK151
                            clear HB
                            have HO_9 := n0_
                            have HO_152002 := n1_
                            have BK140 := n2_
                            have BK141 := n3_
                            have BK151 := n4_
                            have HB := n5_
                            clear n0_ n1_ n2_ n3_ n4_ n5_
                            (try clear hb)
                            (try clear hb2)
                            (try clear hk)
                            (try clear hi)
                            refine hK.out _ _ ⟨(blk_cell BK151.out 0).trans rfl, (blk_cell BK151.out 1).trans rfl, (blk_cell BK151.out 2).trans rfl, (blk_cell BK140.out 0).trans rfl, (blk_cell BK140.out 1).trans rfl, (blk_cell BK140.out 2).trans rfl, (blk_cell BK140.out 3).trans rfl, (blk_cell BK140.out 4).trans rfl, (blk_cell BK140.out 5).trans rfl, (blk_cell BK140.out 6).trans rfl, (blk_cell BK140.out 7).trans rfl⟩ (fun hHeld => ?_)
                            clear hK K
                            refine norm_ (a' := ?_) ?_ ?_
                            rotate_left
                            · show Act.put _ (some 52) _ = _
                              simp only [Act.put, List.setIfInBounds_toArray, List.set_cons_zero, List.set_cons_succ, i64_w, i32_w]
                              rfl
                            refine pure_ (i := 10) (N := some 42) (v := ?_) (a' := ?_) #[true, true, true, true, true, true, true, true, true, true, true, false, false, false, false, false] rfl rfl (any_of HT_.out (by kernel_rfl)) (fun _ _ _ h => h) (Or.inl ⟨by rfl, ?_⟩) ?_ ?_
                            rotate_left
                            · intro w'
                              go_simp
                              with_reducible rfl
                            rotate_left
                            · simp only [Act.put, List.setIfInBounds_toArray, List.set_cons_zero, List.set_cons_succ, i64_w, i32_w]
                              rfl
                            refine pure_ (i := 11) (N := some 53) (v := ?_) (a' := ?_) #[true, true, true, true, true, true, true, true, true, true, true, true, false, false, false, false] rfl rfl (any_of HT_.out (by kernel_rfl)) (fun _ _ _ h => h) (Or.inl ⟨by rfl, ?_⟩) ?_ ?_
                            rotate_left
                            · intro w'
                              go_simp
                              with_reducible rfl
                            rotate_left
                            · simp only [Act.put, List.setIfInBounds_toArray, List.set_cons_zero, List.set_cons_succ, i64_w, i32_w]
                              rfl
                            refine pure_ (i := 12) (N := some 54) (v := ?_) (a' := ?_) #[true, true, true, true, true, true, true, true, true, true, true, true, true, false, false, false] rfl rfl (any_of HT_.out (by kernel_rfl)) (fun _ _ _ h => h) (Or.inl ⟨by rfl, ?_⟩) ?_ ?_
                            rotate_left
                            · intro w'
                              go_simp
                              with_reducible rfl
                            rotate_left
                            · simp only [Act.put, List.setIfInBounds_toArray, List.set_cons_zero, List.set_cons_succ, i64_w, i32_w]
                              rfl
                            refine one_ (i := 13) (N := some 12) #[true, true, true, true, true, true, true, true, true, true, true, true, true, true, false, false] rfl rfl (one_of HT_.out (by kernel_rfl)) (by decide) (fun K hK => ?_)
                            refine box_step ?hg (N := 12) ?hd (cs := #[.int .i64 0, .int .i64 0, .int .i64 0, .int .i64 0, .int .i64 0, .int .i64 0, .int .i64 0, .int .i64 0]) (t := 33) ?hr ?_; (case hd => rfl); (case hg => rfl); (case hr => first | (go_simp; done) | (go_simp; rfl))
                            intro gb164 hg w41 hbox hb
                            have n0_ := Aside0.mk (Kd.R_below (by (with_reducible repeat (first | apply Kd.R_alloc | apply Kd.R_drewN | apply Kd.R_drew)); exact HO_9.out) hb)
                            have n1_ := Aside0.mk (Kd.R_below (by (with_reducible repeat (first | apply Kd.R_alloc | apply Kd.R_drewN | apply Kd.R_drew)); exact HO_152002.out) hb)
                            have n2_ := Aside0.mk (blk_below (g := gb140) (o := .cells #[.int .i64 x141000_2, .int .i64 x141001_2, .int .i64 x141002_2, .int .i64 x141003_2, .int .i64 x141004_2, .int .i64 x141005_2, .int .i64 x141006_2, .int .i64 x141007_2] 33 (0, 0)) (by (with_reducible repeat (first | refine blk_drewN ?_ _ | refine blk_drew ?_ | refine blk_alloc ?_ _)); exact BK140.out) hb)
                            have n3_ := Aside0.mk (blk_below (g := gb141) (o := .cells #[.int .i64 x142000_2, .int .i64 x142001_2, .int .i64 x142002_2, .int .i64 x142003_2, .int .i64 x142004_2, .int .i64 x142005_2, .int .i64 x142006_2, .int .i64 x142007_2] 33 (0, 0)) (by (with_reducible repeat (first | refine blk_drewN ?_ _ | refine blk_drew ?_ | refine blk_alloc ?_ _)); exact BK141.out) hb)
                            have n4_ := Aside0.mk (blk_below (g := gb151) (o := .cells #[.int .i64 t142, .int .i64 t143, .slice Ao15 t144.length co15] 44 (0, 0)) (by (with_reducible repeat (first | refine blk_drewN ?_ _ | refine blk_drew ?_ | refine blk_alloc ?_ _)); exact BK151.out) hb)
                            have n5_ := Aside0.mk (below_step (by repeat (first | (with_reducible first | exact HB.out | apply below_alloc | apply pw_below_drewN | apply below_drew1 | refine below_set ?_ GE140.out | refine below_set ?_ GE141.out | refine below_set ?_ GE151.out) | exact HB.out)) hb)
                            have n6_ := Aside0.mk (hbox)
                            have n7_ := Aside0.mk ((by rw [hg]; exact (below_size (by repeat (first | (with_reducible first | exact HB.out | apply below_alloc | apply pw_below_drewN | apply below_drew1 | refine below_set ?_ GE140.out | refine below_set ?_ GE141.out | refine below_set ?_ GE151.out) | exact HB.out))) : w.heap.size ≤ gb164))
                            have n8_ := Aside0.mk ((by rw [hg]; exact (below_size (by repeat (first | (with_reducible first | exact HB.out | apply below_alloc | apply pw_below_drewN | apply below_drew1 | refine below_set ?_ GE140.out | refine below_set ?_ GE141.out | refine below_set ?_ GE151.out) | exact HB.out))) : w.heap.size ≤ gb164))
                            have n9_ := Aside0.mk ((by rw [hg]; exact Nat.ne_of_lt (blk_lt (g := gb140) (o := .cells #[.int .i64 x141000_2, .int .i64 x141001_2, .int .i64 x141002_2, .int .i64 x141003_2, .int .i64 x141004_2, .int .i64 x141005_2, .int .i64 x141006_2, .int .i64 x141007_2] 33 (0, 0)) (by (with_reducible repeat (first | refine blk_drewN ?_ _ | refine blk_drew ?_ | refine blk_alloc ?_ _)); exact BK140.out)) : gb140 ≠ gb164))
                            have n10_ := Aside0.mk ((by rw [hg]; exact Nat.ne_of_gt (blk_lt (g := gb140) (o := .cells #[.int .i64 x141000_2, .int .i64 x141001_2, .int .i64 x141002_2, .int .i64 x141003_2, .int .i64 x141004_2, .int .i64 x141005_2, .int .i64 x141006_2, .int .i64 x141007_2] 33 (0, 0)) (by (with_reducible repeat (first | refine blk_drewN ?_ _ | refine blk_drew ?_ | refine blk_alloc ?_ _)); exact BK140.out)) : gb164 ≠ gb140))
                            have n11_ := Aside0.mk ((by rw [hg]; exact Nat.ne_of_lt (blk_lt (g := gb141) (o := .cells #[.int .i64 x142000_2, .int .i64 x142001_2, .int .i64 x142002_2, .int .i64 x142003_2, .int .i64 x142004_2, .int .i64 x142005_2, .int .i64 x142006_2, .int .i64 x142007_2] 33 (0, 0)) (by (with_reducible repeat (first | refine blk_drewN ?_ _ | refine blk_drew ?_ | refine blk_alloc ?_ _)); exact BK141.out)) : gb141 ≠ gb164))
                            have n12_ := Aside0.mk ((by rw [hg]; exact Nat.ne_of_gt (blk_lt (g := gb141) (o := .cells #[.int .i64 x142000_2, .int .i64 x142001_2, .int .i64 x142002_2, .int .i64 x142003_2, .int .i64 x142004_2, .int .i64 x142005_2, .int .i64 x142006_2, .int .i64 x142007_2] 33 (0, 0)) (by (with_reducible repeat (first | refine blk_drewN ?_ _ | refine blk_drew ?_ | refine blk_alloc ?_ _)); exact BK141.out)) : gb164 ≠ gb141))
                            have n13_ := Aside0.mk ((by rw [hg]; exact Nat.ne_of_lt (blk_lt (g := gb151) (o := .cells #[.int .i64 t142, .int .i64 t143, .slice Ao15 t144.length co15] 44 (0, 0)) (by (with_reducible repeat (first | refine blk_drewN ?_ _ | refine blk_drew ?_ | refine blk_alloc ?_ _)); exact BK151.out)) : gb151 ≠ gb164))
                            have n14_ := Aside0.mk ((by rw [hg]; exact Nat.ne_of_gt (blk_lt (g := gb151) (o := .cells #[.int .i64 t142, .int .i64 t143, .slice Ao15 t144.length co15] 44 (0, 0)) (by (with_reducible repeat (first | refine blk_drewN ?_ _ | refine blk_drew ?_ | refine blk_alloc ?_ _)); exact BK151.out)) : gb164 ≠ gb151))
                            clear HO_9
                            clear HO_152002
                            clear BK140
                            clear BK141
                            clear BK151
                            clear HB
                            have HO_9 := n0_
                            have HO_152002 := n1_
                            have BK140 := n2_
                            have BK141 := n3_
                            have BK151 := n4_
                            have HB := n5_
                            have BK164 := n6_
                            have GW164 := n7_
                            have GE164 := n8_
                            have NB140_164 := n9_
                            have NB164_140 := n10_
                            have NB141_164 := n11_
                            have NB164_141 := n12_
                            have NB151_164 := n13_
                            have NB164_151 := n14_
                            clear n0_ n1_ n2_ n3_ n4_ n5_ n6_ n7_ n8_ n9_ n10_ n11_ n12_ n13_ n14_
                            clear hb hbox hg
                            refine hK.out _ _ ⟨(blk_cell BK151.out 0).trans rfl, (blk_cell BK151.out 1).trans rfl, (blk_cell BK151.out 2).trans rfl, (blk_cell BK140.out 0).trans rfl, (blk_cell BK140.out 1).trans rfl, (blk_cell BK140.out 2).trans rfl, (blk_cell BK140.out 3).trans rfl, (blk_cell BK140.out 4).trans rfl, (blk_cell BK140.out 5).trans rfl, (blk_cell BK140.out 6).trans rfl, (blk_cell BK140.out 7).trans rfl⟩ (fun hHeld => ?_)
                            clear hK K
                            refine norm_ (a' := ?_) ?_ ?_
                            rotate_left
                            · show Act.put _ (some 12) _ = _
                              simp only [Act.put, List.setIfInBounds_toArray, List.set_cons_zero, List.set_cons_succ, i64_w, i32_w]
                              rfl
                            exact norm_ (by simp only [putAll, Act.put, List.setIfInBounds_toArray, List.set_cons_zero, List.set_cons_succ]) (hCont (gb164) _ ⟨hHeld, (by (with_reducible repeat (first | apply Kd.R_alloc | apply Kd.R_drewN | apply Kd.R_drew)); exact HO_152002.out), (by (with_reducible repeat (first | apply Kd.R_alloc | apply Kd.R_drewN | apply Kd.R_drew)); exact HO_9.out), (by (with_reducible repeat (first | refine blk_drewN ?_ _ | refine blk_drew ?_ | refine blk_alloc ?_ _)); exact BK140.out), (by (with_reducible repeat (first | refine blk_drewN ?_ _ | refine blk_drew ?_ | refine blk_alloc ?_ _)); exact BK141.out), (by (with_reducible repeat (first | refine blk_drewN ?_ _ | refine blk_drew ?_ | refine blk_alloc ?_ _)); exact BK151.out), (by (with_reducible repeat (first | refine blk_drewN ?_ _ | refine blk_drew ?_ | refine blk_alloc ?_ _)); exact BK164.out), GW164.out, GE164.out, NB140_164.out, NB164_140.out, NB141_164.out, NB164_141.out, NB151_164.out, NB164_151.out, (by repeat (first | (with_reducible first | exact HB.out | apply below_alloc | apply pw_below_drewN | apply below_drew1 | refine below_set ?_ GE140.out | refine below_set ?_ GE141.out | refine below_set ?_ GE151.out | refine below_set ?_ GE164.out) | exact HB.out))⟩)
                          · skip
                            refine box_step ?hg (N := 12) ?hd (cs := #[.int .i64 0, .int .i64 0, .int .i64 0, .int .i64 0, .int .i64 0, .int .i64 0, .int .i64 0, .int .i64 0]) (t := 33) ?hr ?_; (case hd => rfl); (case hg => rfl); (case hr => first | (go_simp; done) | (go_simp; rfl))
                            intro gb164 hg w40 hbox hb
                            have n0_ := Aside0.mk (Kd.R_below (by (with_reducible repeat (first | apply Kd.R_alloc | apply Kd.R_drewN | apply Kd.R_drew)); exact HO_9.out) hb)
                            have n1_ := Aside0.mk (Kd.R_below (by (with_reducible repeat (first | apply Kd.R_alloc | apply Kd.R_drewN | apply Kd.R_drew)); exact HO_152002.out) hb)
                            have n2_ := Aside0.mk (blk_below (g := gb140) (o := .cells #[.int .i64 x141000_2, .int .i64 x141001_2, .int .i64 x141002_2, .int .i64 x141003_2, .int .i64 x141004_2, .int .i64 x141005_2, .int .i64 x141006_2, .int .i64 x141007_2] 33 (0, 0)) (by (with_reducible repeat (first | refine blk_drewN ?_ _ | refine blk_drew ?_ | refine blk_alloc ?_ _)); exact BK140.out) hb)
                            have n3_ := Aside0.mk (blk_below (g := gb141) (o := .cells #[.int .i64 x142000_2, .int .i64 x142001_2, .int .i64 x142002_2, .int .i64 x142003_2, .int .i64 x142004_2, .int .i64 x142005_2, .int .i64 x142006_2, .int .i64 x142007_2] 33 (0, 0)) (by (with_reducible repeat (first | refine blk_drewN ?_ _ | refine blk_drew ?_ | refine blk_alloc ?_ _)); exact BK141.out) hb)
                            have n4_ := Aside0.mk (blk_below (g := gb151) (o := .cells #[.int .i64 t142, .int .i64 t143, .slice Ao15 t144.length co15] 44 (0, 0)) (by (with_reducible repeat (first | refine blk_drewN ?_ _ | refine blk_drew ?_ | refine blk_alloc ?_ _)); exact BK151.out) hb)
                            have n5_ := Aside0.mk (below_step (by repeat (first | (with_reducible first | exact HB.out | apply below_alloc | apply pw_below_drewN | apply below_drew1 | refine below_set ?_ GE140.out | refine below_set ?_ GE141.out | refine below_set ?_ GE151.out) | exact HB.out)) hb)
                            have n6_ := Aside0.mk (hbox)
                            have n7_ := Aside0.mk ((by rw [hg]; exact (below_size (by repeat (first | (with_reducible first | exact HB.out | apply below_alloc | apply pw_below_drewN | apply below_drew1 | refine below_set ?_ GE140.out | refine below_set ?_ GE141.out | refine below_set ?_ GE151.out) | exact HB.out))) : w.heap.size ≤ gb164))
                            have n8_ := Aside0.mk ((by rw [hg]; exact (below_size (by repeat (first | (with_reducible first | exact HB.out | apply below_alloc | apply pw_below_drewN | apply below_drew1 | refine below_set ?_ GE140.out | refine below_set ?_ GE141.out | refine below_set ?_ GE151.out) | exact HB.out))) : w.heap.size ≤ gb164))
                            have n9_ := Aside0.mk ((by rw [hg]; exact Nat.ne_of_lt (blk_lt (g := gb140) (o := .cells #[.int .i64 x141000_2, .int .i64 x141001_2, .int .i64 x141002_2, .int .i64 x141003_2, .int .i64 x141004_2, .int .i64 x141005_2, .int .i64 x141006_2, .int .i64 x141007_2] 33 (0, 0)) (by (with_reducible repeat (first | refine blk_drewN ?_ _ | refine blk_drew ?_ | refine blk_alloc ?_ _)); exact BK140.out)) : gb140 ≠ gb164))
                            have n10_ := Aside0.mk ((by rw [hg]; exact Nat.ne_of_gt (blk_lt (g := gb140) (o := .cells #[.int .i64 x141000_2, .int .i64 x141001_2, .int .i64 x141002_2, .int .i64 x141003_2, .int .i64 x141004_2, .int .i64 x141005_2, .int .i64 x141006_2, .int .i64 x141007_2] 33 (0, 0)) (by (with_reducible repeat (first | refine blk_drewN ?_ _ | refine blk_drew ?_ | refine blk_alloc ?_ _)); exact BK140.out)) : gb164 ≠ gb140))
                            have n11_ := Aside0.mk ((by rw [hg]; exact Nat.ne_of_lt (blk_lt (g := gb141) (o := .cells #[.int .i64 x142000_2, .int .i64 x142001_2, .int .i64 x142002_2, .int .i64 x142003_2, .int .i64 x142004_2, .int .i64 x142005_2, .int .i64 x142006_2, .int .i64 x142007_2] 33 (0, 0)) (by (with_reducible repeat (first | refine blk_drewN ?_ _ | refine blk_drew ?_ | refine blk_alloc ?_ _)); exact BK141.out)) : gb141 ≠ gb164))
                            have n12_ := Aside0.mk ((by rw [hg]; exact Nat.ne_of_gt (blk_lt (g := gb141) (o := .cells #[.int .i64 x142000_2, .int .i64 x142001_2, .int .i64 x142002_2, .int .i64 x142003_2, .int .i64 x142004_2, .int .i64 x142005_2, .int .i64 x142006_2, .int .i64 x142007_2] 33 (0, 0)) (by (with_reducible repeat (first | refine blk_drewN ?_ _ | refine blk_drew ?_ | refine blk_alloc ?_ _)); exact BK141.out)) : gb164 ≠ gb141))
                            have n13_ := Aside0.mk ((by rw [hg]; exact Nat.ne_of_lt (blk_lt (g := gb151) (o := .cells #[.int .i64 t142, .int .i64 t143, .slice Ao15 t144.length co15] 44 (0, 0)) (by (with_reducible repeat (first | refine blk_drewN ?_ _ | refine blk_drew ?_ | refine blk_alloc ?_ _)); exact BK151.out)) : gb151 ≠ gb164))
                            have n14_ := Aside0.mk ((by rw [hg]; exact Nat.ne_of_gt (blk_lt (g := gb151) (o := .cells #[.int .i64 t142, .int .i64 t143, .slice Ao15 t144.length co15] 44 (0, 0)) (by (with_reducible repeat (first | refine blk_drewN ?_ _ | refine blk_drew ?_ | refine blk_alloc ?_ _)); exact BK151.out)) : gb164 ≠ gb151))
                            clear HO_9
                            clear HO_152002
                            clear BK140
                            clear BK141
                            clear BK151
                            clear HB
                            have HO_9 := n0_
                            have HO_152002 := n1_
                            have BK140 := n2_
                            have BK141 := n3_
                            have BK151 := n4_
                            have HB := n5_
                            have BK164 := n6_
                            have GW164 := n7_
                            have GE164 := n8_
                            have NB140_164 := n9_
                            have NB164_140 := n10_
                            have NB141_164 := n11_
                            have NB164_141 := n12_
                            have NB151_164 := n13_
                            have NB164_151 := n14_
                            clear n0_ n1_ n2_ n3_ n4_ n5_ n6_ n7_ n8_ n9_ n10_ n11_ n12_ n13_ n14_
                            clear hb hbox hg
                            refine hK.out _ _ ⟨(blk_cell BK151.out 0).trans rfl, (blk_cell BK151.out 1).trans rfl, (blk_cell BK151.out 2).trans rfl, (blk_cell BK140.out 0).trans rfl, (blk_cell BK140.out 1).trans rfl, (blk_cell BK140.out 2).trans rfl, (blk_cell BK140.out 3).trans rfl, (blk_cell BK140.out 4).trans rfl, (blk_cell BK140.out 5).trans rfl, (blk_cell BK140.out 6).trans rfl, (blk_cell BK140.out 7).trans rfl⟩ (fun hHeld => ?_)
                            clear hK K
                            refine norm_ (a' := ?_) ?_ ?_
                            rotate_left
                            · show Act.put _ (some 12) _ = _
                              simp only [Act.put, List.setIfInBounds_toArray, List.set_cons_zero, List.set_cons_succ, i64_w, i32_w]
                              rfl
                            refine one_ (i := 9) (N := some 52) #[true, true, true, true, true, true, true, true, true, true, false, false, false, true, false, false] rfl rfl (one_of HT_.out (by kernel_rfl)) (by decide) (fun K hK => ?_)
                            refine goes_ Tryd.func29 (by kernel_rfl) rfl #[.agg #[.int .i64 t142, .int .i64 t143, .slice Ao15 t144.length co15], .slice Ao38 t147.length co38, .agg #[.int .i64 x141000_2, .int .i64 x141001_2, .int .i64 x141002_2, .int .i64 x141003_2, .int .i64 x141004_2, .int .i64 x141005_2, .int .i64 x141006_2, .int .i64 x141007_2], .int .i64 t154] (by rfl) rfl rfl (by (try simp only [List.map_toArray, List.map_cons, List.map_nil]); first | done | rfl | (simp only [List.length_drop, List.length_take]; rfl)) ?_
                            with_reducible refine (spec_prRoll.calls t142 t143 _ _ t144 _ _ t147 x141000_2 x141001_2 x141002_2 x141003_2 x141004_2 x141005_2 x141006_2 x141007_2 t154 t155 t156 t157 t158 t159 t160 t161 t162 true _ ?side1 ?side2 ?side3 ?side4 A36.out).mono ?_
                            (case side1 => repeat (first | exact (Kd.R_reads' HO_152002.out).2.2 | (with_reducible refine Kd.C_alloc ?_ _) | (with_reducible refine Kd.C_drewN ?_ _) | (with_reducible refine Kd.C_drew ?_)))
                            (case side2 => exact (Kd.R_reads' HO_152002.out).2.1)
                            (case side3 => repeat (first | exact (Kd.R_reads' HO_9.out).2.2 | (with_reducible refine Kd.C_alloc ?_ _) | (with_reducible refine Kd.C_drewN ?_ _) | (with_reducible refine Kd.C_drew ?_)))
                            (case side4 => exact (Kd.R_reads' HO_9.out).2.1)
                            rintro e w41 ⟨rfl, hb⟩
                            refine ⟨_, rfl, ?_⟩
                            have n0_ := Aside0.mk (Kd.R_below (by (with_reducible repeat (first | apply Kd.R_alloc | apply Kd.R_drewN | apply Kd.R_drew)); exact HO_9.out) hb)
                            have n1_ := Aside0.mk (Kd.R_below (by (with_reducible repeat (first | apply Kd.R_alloc | apply Kd.R_drewN | apply Kd.R_drew)); exact HO_152002.out) hb)
                            have n2_ := Aside0.mk (blk_below (g := gb140) (o := .cells #[.int .i64 x141000_2, .int .i64 x141001_2, .int .i64 x141002_2, .int .i64 x141003_2, .int .i64 x141004_2, .int .i64 x141005_2, .int .i64 x141006_2, .int .i64 x141007_2] 33 (0, 0)) (by (with_reducible repeat (first | refine blk_drewN ?_ _ | refine blk_drew ?_ | refine blk_alloc ?_ _)); exact BK140.out) hb)
                            have n3_ := Aside0.mk (blk_below (g := gb141) (o := .cells #[.int .i64 x142000_2, .int .i64 x142001_2, .int .i64 x142002_2, .int .i64 x142003_2, .int .i64 x142004_2, .int .i64 x142005_2, .int .i64 x142006_2, .int .i64 x142007_2] 33 (0, 0)) (by (with_reducible repeat (first | refine blk_drewN ?_ _ | refine blk_drew ?_ | refine blk_alloc ?_ _)); exact BK141.out) hb)
                            have n4_ := Aside0.mk (blk_below (g := gb151) (o := .cells #[.int .i64 t142, .int .i64 t143, .slice Ao15 t144.length co15] 44 (0, 0)) (by (with_reducible repeat (first | refine blk_drewN ?_ _ | refine blk_drew ?_ | refine blk_alloc ?_ _)); exact BK151.out) hb)
                            have n5_ := Aside0.mk (blk_below (g := gb164) (o := .cells #[.int .i64 0, .int .i64 0, .int .i64 0, .int .i64 0, .int .i64 0, .int .i64 0, .int .i64 0, .int .i64 0] 33 (0, 0)) (by (with_reducible repeat (first | refine blk_drewN ?_ _ | refine blk_drew ?_ | refine blk_alloc ?_ _)); exact BK164.out) hb)
                            have n6_ := Aside0.mk (below_step (by repeat (first | (with_reducible first | exact HB.out | apply below_alloc | apply pw_below_drewN | apply below_drew1 | refine below_set ?_ GE140.out | refine below_set ?_ GE141.out | refine below_set ?_ GE151.out | refine below_set ?_ GE164.out) | exact HB.out)) hb)
                            clear HO_9
                            clear HO_152002
                            clear BK140
                            clear BK141
                            clear BK151
                            clear BK164
                            clear HB
                            have HO_9 := n0_
                            have HO_152002 := n1_
                            have BK140 := n2_
                            have BK141 := n3_
                            have BK151 := n4_
                            have BK164 := n5_
                            have HB := n6_
                            clear n0_ n1_ n2_ n3_ n4_ n5_ n6_
                            (try clear hb)
                            (try clear hb2)
                            (try clear hk)
                            (try clear hi)
                            refine hK.out _ _ ⟨(blk_cell BK151.out 0).trans rfl, (blk_cell BK151.out 1).trans rfl, (blk_cell BK151.out 2).trans rfl, (blk_cell BK140.out 0).trans rfl, (blk_cell BK140.out 1).trans rfl, (blk_cell BK140.out 2).trans rfl, (blk_cell BK140.out 3).trans rfl, (blk_cell BK140.out 4).trans rfl, (blk_cell BK140.out 5).trans rfl, (blk_cell BK140.out 6).trans rfl, (blk_cell BK140.out 7).trans rfl⟩ (fun hHeld => ?_)
                            clear hK K
                            refine norm_ (a' := ?_) ?_ ?_
                            rotate_left
                            · show Act.put _ (some 52) _ = _
                              simp only [Act.put, List.setIfInBounds_toArray, List.set_cons_zero, List.set_cons_succ, i64_w, i32_w]
                              rfl
                            refine pure_ (i := 10) (N := some 42) (v := ?_) (a' := ?_) #[true, true, true, true, true, true, true, true, true, true, true, false, false, true, false, false] rfl rfl (any_of HT_.out (by kernel_rfl)) (fun _ _ _ h => h) (Or.inl ⟨by rfl, ?_⟩) ?_ ?_
                            rotate_left
                            · intro w'
                              go_simp
                              with_reducible rfl
                            rotate_left
                            · simp only [Act.put, List.setIfInBounds_toArray, List.set_cons_zero, List.set_cons_succ, i64_w, i32_w]
                              rfl
                            refine pure_ (i := 11) (N := some 53) (v := ?_) (a' := ?_) #[true, true, true, true, true, true, true, true, true, true, true, true, false, true, false, false] rfl rfl (any_of HT_.out (by kernel_rfl)) (fun _ _ _ h => h) (Or.inl ⟨by rfl, ?_⟩) ?_ ?_
                            rotate_left
                            · intro w'
                              go_simp
                              with_reducible rfl
                            rotate_left
                            · simp only [Act.put, List.setIfInBounds_toArray, List.set_cons_zero, List.set_cons_succ, i64_w, i32_w]
                              rfl
                            refine pure_ (i := 12) (N := some 54) (v := ?_) (a' := ?_) #[true, true, true, true, true, true, true, true, true, true, true, true, true, true, false, false] rfl rfl (any_of HT_.out (by kernel_rfl)) (fun _ _ _ h => h) (Or.inl ⟨by rfl, ?_⟩) ?_ ?_
                            rotate_left
                            · intro w'
                              go_simp
                              with_reducible rfl
                            rotate_left
                            · simp only [Act.put, List.setIfInBounds_toArray, List.set_cons_zero, List.set_cons_succ, i64_w, i32_w]
                              rfl
                            exact norm_ (by simp only [putAll, Act.put, List.setIfInBounds_toArray, List.set_cons_zero, List.set_cons_succ]) (hCont (gb164) _ ⟨hHeld, (by (with_reducible repeat (first | apply Kd.R_alloc | apply Kd.R_drewN | apply Kd.R_drew)); exact HO_152002.out), (by (with_reducible repeat (first | apply Kd.R_alloc | apply Kd.R_drewN | apply Kd.R_drew)); exact HO_9.out), (by (with_reducible repeat (first | refine blk_drewN ?_ _ | refine blk_drew ?_ | refine blk_alloc ?_ _)); exact BK140.out), (by (with_reducible repeat (first | refine blk_drewN ?_ _ | refine blk_drew ?_ | refine blk_alloc ?_ _)); exact BK141.out), (by (with_reducible repeat (first | refine blk_drewN ?_ _ | refine blk_drew ?_ | refine blk_alloc ?_ _)); exact BK151.out), (by (with_reducible repeat (first | refine blk_drewN ?_ _ | refine blk_drew ?_ | refine blk_alloc ?_ _)); exact BK164.out), GW164.out, GE164.out, NB140_164.out, NB164_140.out, NB141_164.out, NB164_141.out, NB151_164.out, NB164_151.out, (by repeat (first | (with_reducible first | exact HB.out | apply below_alloc | apply pw_below_drewN | apply below_drew1 | refine below_set ?_ GE140.out | refine below_set ?_ GE141.out | refine below_set ?_ GE151.out | refine below_set ?_ GE164.out) | exact HB.out))⟩)
                        · skip
                          refine box_step ?hg (N := 12) ?hd (cs := #[.int .i64 0, .int .i64 0, .int .i64 0, .int .i64 0, .int .i64 0, .int .i64 0, .int .i64 0, .int .i64 0]) (t := 33) ?hr ?_; (case hd => rfl); (case hg => rfl); (case hr => first | (go_simp; done) | (go_simp; rfl))
                          intro gb164 hg w40 hbox hb
                          have n0_ := Aside0.mk (Kd.R_below (by (with_reducible repeat (first | apply Kd.R_alloc | apply Kd.R_drewN | apply Kd.R_drew)); exact HO_9.out) hb)
                          have n1_ := Aside0.mk (Kd.R_below (by (with_reducible repeat (first | apply Kd.R_alloc | apply Kd.R_drewN | apply Kd.R_drew)); exact HO_152002.out) hb)
                          have n2_ := Aside0.mk (blk_below (g := gb140) (o := .cells #[.int .i64 x141000_2, .int .i64 x141001_2, .int .i64 x141002_2, .int .i64 x141003_2, .int .i64 x141004_2, .int .i64 x141005_2, .int .i64 x141006_2, .int .i64 x141007_2] 33 (0, 0)) (by (with_reducible repeat (first | refine blk_drewN ?_ _ | refine blk_drew ?_ | refine blk_alloc ?_ _)); exact BK140.out) hb)
                          have n3_ := Aside0.mk (blk_below (g := gb141) (o := .cells #[.int .i64 x142000_2, .int .i64 x142001_2, .int .i64 x142002_2, .int .i64 x142003_2, .int .i64 x142004_2, .int .i64 x142005_2, .int .i64 x142006_2, .int .i64 x142007_2] 33 (0, 0)) (by (with_reducible repeat (first | refine blk_drewN ?_ _ | refine blk_drew ?_ | refine blk_alloc ?_ _)); exact BK141.out) hb)
                          have n4_ := Aside0.mk (blk_below (g := gb151) (o := .cells #[.int .i64 t142, .int .i64 t143, .slice Ao15 t144.length co15] 44 (0, 0)) (by (with_reducible repeat (first | refine blk_drewN ?_ _ | refine blk_drew ?_ | refine blk_alloc ?_ _)); exact BK151.out) hb)
                          have n5_ := Aside0.mk (below_step (by repeat (first | (with_reducible first | exact HB.out | apply below_alloc | apply pw_below_drewN | apply below_drew1 | refine below_set ?_ GE140.out | refine below_set ?_ GE141.out | refine below_set ?_ GE151.out) | exact HB.out)) hb)
                          have n6_ := Aside0.mk (hbox)
                          have n7_ := Aside0.mk ((by rw [hg]; exact (below_size (by repeat (first | (with_reducible first | exact HB.out | apply below_alloc | apply pw_below_drewN | apply below_drew1 | refine below_set ?_ GE140.out | refine below_set ?_ GE141.out | refine below_set ?_ GE151.out) | exact HB.out))) : w.heap.size ≤ gb164))
                          have n8_ := Aside0.mk ((by rw [hg]; exact (below_size (by repeat (first | (with_reducible first | exact HB.out | apply below_alloc | apply pw_below_drewN | apply below_drew1 | refine below_set ?_ GE140.out | refine below_set ?_ GE141.out | refine below_set ?_ GE151.out) | exact HB.out))) : w.heap.size ≤ gb164))
                          have n9_ := Aside0.mk ((by rw [hg]; exact Nat.ne_of_lt (blk_lt (g := gb140) (o := .cells #[.int .i64 x141000_2, .int .i64 x141001_2, .int .i64 x141002_2, .int .i64 x141003_2, .int .i64 x141004_2, .int .i64 x141005_2, .int .i64 x141006_2, .int .i64 x141007_2] 33 (0, 0)) (by (with_reducible repeat (first | refine blk_drewN ?_ _ | refine blk_drew ?_ | refine blk_alloc ?_ _)); exact BK140.out)) : gb140 ≠ gb164))
                          have n10_ := Aside0.mk ((by rw [hg]; exact Nat.ne_of_gt (blk_lt (g := gb140) (o := .cells #[.int .i64 x141000_2, .int .i64 x141001_2, .int .i64 x141002_2, .int .i64 x141003_2, .int .i64 x141004_2, .int .i64 x141005_2, .int .i64 x141006_2, .int .i64 x141007_2] 33 (0, 0)) (by (with_reducible repeat (first | refine blk_drewN ?_ _ | refine blk_drew ?_ | refine blk_alloc ?_ _)); exact BK140.out)) : gb164 ≠ gb140))
                          have n11_ := Aside0.mk ((by rw [hg]; exact Nat.ne_of_lt (blk_lt (g := gb141) (o := .cells #[.int .i64 x142000_2, .int .i64 x142001_2, .int .i64 x142002_2, .int .i64 x142003_2, .int .i64 x142004_2, .int .i64 x142005_2, .int .i64 x142006_2, .int .i64 x142007_2] 33 (0, 0)) (by (with_reducible repeat (first | refine blk_drewN ?_ _ | refine blk_drew ?_ | refine blk_alloc ?_ _)); exact BK141.out)) : gb141 ≠ gb164))
                          have n12_ := Aside0.mk ((by rw [hg]; exact Nat.ne_of_gt (blk_lt (g := gb141) (o := .cells #[.int .i64 x142000_2, .int .i64 x142001_2, .int .i64 x142002_2, .int .i64 x142003_2, .int .i64 x142004_2, .int .i64 x142005_2, .int .i64 x142006_2, .int .i64 x142007_2] 33 (0, 0)) (by (with_reducible repeat (first | refine blk_drewN ?_ _ | refine blk_drew ?_ | refine blk_alloc ?_ _)); exact BK141.out)) : gb164 ≠ gb141))
                          have n13_ := Aside0.mk ((by rw [hg]; exact Nat.ne_of_lt (blk_lt (g := gb151) (o := .cells #[.int .i64 t142, .int .i64 t143, .slice Ao15 t144.length co15] 44 (0, 0)) (by (with_reducible repeat (first | refine blk_drewN ?_ _ | refine blk_drew ?_ | refine blk_alloc ?_ _)); exact BK151.out)) : gb151 ≠ gb164))
                          have n14_ := Aside0.mk ((by rw [hg]; exact Nat.ne_of_gt (blk_lt (g := gb151) (o := .cells #[.int .i64 t142, .int .i64 t143, .slice Ao15 t144.length co15] 44 (0, 0)) (by (with_reducible repeat (first | refine blk_drewN ?_ _ | refine blk_drew ?_ | refine blk_alloc ?_ _)); exact BK151.out)) : gb164 ≠ gb151))
                          clear HO_9
                          clear HO_152002
                          clear BK140
                          clear BK141
                          clear BK151
                          clear HB
                          have HO_9 := n0_
                          have HO_152002 := n1_
                          have BK140 := n2_
                          have BK141 := n3_
                          have BK151 := n4_
                          have HB := n5_
                          have BK164 := n6_
                          have GW164 := n7_
                          have GE164 := n8_
                          have NB140_164 := n9_
                          have NB164_140 := n10_
                          have NB141_164 := n11_
                          have NB164_141 := n12_
                          have NB151_164 := n13_
                          have NB164_151 := n14_
                          clear n0_ n1_ n2_ n3_ n4_ n5_ n6_ n7_ n8_ n9_ n10_ n11_ n12_ n13_ n14_
                          clear hb hbox hg
                          refine hK.out _ _ ⟨(blk_cell BK151.out 0).trans rfl, (blk_cell BK151.out 1).trans rfl, (blk_cell BK151.out 2).trans rfl, (blk_cell BK140.out 0).trans rfl, (blk_cell BK140.out 1).trans rfl, (blk_cell BK140.out 2).trans rfl, (blk_cell BK140.out 3).trans rfl, (blk_cell BK140.out 4).trans rfl, (blk_cell BK140.out 5).trans rfl, (blk_cell BK140.out 6).trans rfl, (blk_cell BK140.out 7).trans rfl⟩ (fun hHeld => ?_)
                          clear hK K
                          refine norm_ (a' := ?_) ?_ ?_
                          rotate_left
                          · show Act.put _ (some 12) _ = _
                            simp only [Act.put, List.setIfInBounds_toArray, List.set_cons_zero, List.set_cons_succ, i64_w, i32_w]
                            rfl
                          refine one_ (i := 8) (N := some 51) #[true, true, true, true, true, true, true, true, true, false, false, false, false, true, false, false] rfl rfl (one_of HT_.out (by kernel_rfl)) (by decide) (fun K hK => ?_)
                          refine goes_ Tryd.func33 (by kernel_rfl) rfl #[.string (a2.extract (x11_2 : Int).toNat ((wrap64 (x11_2 + 1)) : Int).toNat)] (by rfl) rfl rfl (by (try simp only [List.map_toArray, List.map_cons, List.map_nil]); first | done | rfl | (simp only [List.length_drop, List.length_take]; rfl)) ?_
                          with_reducible refine (spec_diDir.calls k2 (a2.extract (x11_2 : Int).toNat ((wrap64 (x11_2 + 1)) : Int).toNat) t154 _ A35.out).mono ?_
                          rintro e w' ⟨rfl, ⟨nd, rfl⟩⟩
                          refine ⟨_, rfl, ?_⟩
                          refine hK.out _ _ ⟨(blk_cell BK151.out 0).trans rfl, (blk_cell BK151.out 1).trans rfl, (blk_cell BK151.out 2).trans rfl, (blk_cell BK140.out 0).trans rfl, (blk_cell BK140.out 1).trans rfl, (blk_cell BK140.out 2).trans rfl, (blk_cell BK140.out 3).trans rfl, (blk_cell BK140.out 4).trans rfl, (blk_cell BK140.out 5).trans rfl, (blk_cell BK140.out 6).trans rfl, (blk_cell BK140.out 7).trans rfl⟩ (fun hHeld => ?_)
                          clear hK K
                          refine norm_ (a' := ?_) ?_ ?_
                          rotate_left
                          · show Act.put _ (some 51) _ = _
                            simp only [Act.put, List.setIfInBounds_toArray, List.set_cons_zero, List.set_cons_succ, i64_w, i32_w]
                            rfl
                          refine one_ (i := 9) (N := some 52) #[true, true, true, true, true, true, true, true, true, true, false, false, false, true, false, false] rfl rfl (one_of HT_.out (by kernel_rfl)) (by decide) (fun K hK => ?_)
                          refine goes_ Tryd.func29 (by kernel_rfl) rfl #[.agg #[.int .i64 t142, .int .i64 t143, .slice Ao15 t144.length co15], .slice Ao38 t147.length co38, .agg #[.int .i64 x141000_2, .int .i64 x141001_2, .int .i64 x141002_2, .int .i64 x141003_2, .int .i64 x141004_2, .int .i64 x141005_2, .int .i64 x141006_2, .int .i64 x141007_2], .int .i64 t154] (by rfl) rfl rfl (by (try simp only [List.map_toArray, List.map_cons, List.map_nil]); first | done | rfl | (simp only [List.length_drop, List.length_take]; rfl)) ?_
                          with_reducible refine (spec_prRoll.calls t142 t143 _ _ t144 _ _ t147 x141000_2 x141001_2 x141002_2 x141003_2 x141004_2 x141005_2 x141006_2 x141007_2 t154 t155 t156 t157 t158 t159 t160 t161 t162 true _ ?side1 ?side2 ?side3 ?side4 A36.out).mono ?_
                          (case side1 => repeat (first | exact (Kd.R_reads' HO_152002.out).2.2 | (with_reducible refine Kd.C_alloc ?_ _) | (with_reducible refine Kd.C_drewN ?_ _) | (with_reducible refine Kd.C_drew ?_)))
                          (case side2 => exact (Kd.R_reads' HO_152002.out).2.1)
                          (case side3 => repeat (first | exact (Kd.R_reads' HO_9.out).2.2 | (with_reducible refine Kd.C_alloc ?_ _) | (with_reducible refine Kd.C_drewN ?_ _) | (with_reducible refine Kd.C_drew ?_)))
                          (case side4 => exact (Kd.R_reads' HO_9.out).2.1)
                          rintro e w41 ⟨rfl, hb⟩
                          refine ⟨_, rfl, ?_⟩
                          have n0_ := Aside0.mk (Kd.R_below (by (with_reducible repeat (first | apply Kd.R_alloc | apply Kd.R_drewN | apply Kd.R_drew)); exact HO_9.out) hb)
                          have n1_ := Aside0.mk (Kd.R_below (by (with_reducible repeat (first | apply Kd.R_alloc | apply Kd.R_drewN | apply Kd.R_drew)); exact HO_152002.out) hb)
                          have n2_ := Aside0.mk (blk_below (g := gb140) (o := .cells #[.int .i64 x141000_2, .int .i64 x141001_2, .int .i64 x141002_2, .int .i64 x141003_2, .int .i64 x141004_2, .int .i64 x141005_2, .int .i64 x141006_2, .int .i64 x141007_2] 33 (0, 0)) (by (with_reducible repeat (first | refine blk_drewN ?_ _ | refine blk_drew ?_ | refine blk_alloc ?_ _)); exact BK140.out) hb)
                          have n3_ := Aside0.mk (blk_below (g := gb141) (o := .cells #[.int .i64 x142000_2, .int .i64 x142001_2, .int .i64 x142002_2, .int .i64 x142003_2, .int .i64 x142004_2, .int .i64 x142005_2, .int .i64 x142006_2, .int .i64 x142007_2] 33 (0, 0)) (by (with_reducible repeat (first | refine blk_drewN ?_ _ | refine blk_drew ?_ | refine blk_alloc ?_ _)); exact BK141.out) hb)
                          have n4_ := Aside0.mk (blk_below (g := gb151) (o := .cells #[.int .i64 t142, .int .i64 t143, .slice Ao15 t144.length co15] 44 (0, 0)) (by (with_reducible repeat (first | refine blk_drewN ?_ _ | refine blk_drew ?_ | refine blk_alloc ?_ _)); exact BK151.out) hb)
                          have n5_ := Aside0.mk (blk_below (g := gb164) (o := .cells #[.int .i64 0, .int .i64 0, .int .i64 0, .int .i64 0, .int .i64 0, .int .i64 0, .int .i64 0, .int .i64 0] 33 (0, 0)) (by (with_reducible repeat (first | refine blk_drewN ?_ _ | refine blk_drew ?_ | refine blk_alloc ?_ _)); exact BK164.out) hb)
                          have n6_ := Aside0.mk (below_step (by repeat (first | (with_reducible first | exact HB.out | apply below_alloc | apply pw_below_drewN | apply below_drew1 | refine below_set ?_ GE140.out | refine below_set ?_ GE141.out | refine below_set ?_ GE151.out | refine below_set ?_ GE164.out) | exact HB.out)) hb)
                          clear HO_9
                          clear HO_152002
                          clear BK140
                          clear BK141
                          clear BK151
                          clear BK164
                          clear HB
                          have HO_9 := n0_
                          have HO_152002 := n1_
                          have BK140 := n2_
                          have BK141 := n3_
                          have BK151 := n4_
                          have BK164 := n5_
                          have HB := n6_
                          clear n0_ n1_ n2_ n3_ n4_ n5_ n6_
                          (try clear hb)
                          (try clear hb2)
                          (try clear hk)
                          (try clear hi)
                          refine hK.out _ _ ⟨(blk_cell BK151.out 0).trans rfl, (blk_cell BK151.out 1).trans rfl, (blk_cell BK151.out 2).trans rfl, (blk_cell BK140.out 0).trans rfl, (blk_cell BK140.out 1).trans rfl, (blk_cell BK140.out 2).trans rfl, (blk_cell BK140.out 3).trans rfl, (blk_cell BK140.out 4).trans rfl, (blk_cell BK140.out 5).trans rfl, (blk_cell BK140.out 6).trans rfl, (blk_cell BK140.out 7).trans rfl⟩ (fun hHeld => ?_)
                          clear hK K
                          refine norm_ (a' := ?_) ?_ ?_
                          rotate_left
                          · show Act.put _ (some 52) _ = _
                            simp only [Act.put, List.setIfInBounds_toArray, List.set_cons_zero, List.set_cons_succ, i64_w, i32_w]
                            rfl
                          refine pure_ (i := 10) (N := some 42) (v := ?_) (a' := ?_) #[true, true, true, true, true, true, true, true, true, true, true, false, false, true, false, false] rfl rfl (any_of HT_.out (by kernel_rfl)) (fun _ _ _ h => h) (Or.inl ⟨by rfl, ?_⟩) ?_ ?_
                          rotate_left
                          · intro w'
                            go_simp
                            with_reducible rfl
                          rotate_left
                          · simp only [Act.put, List.setIfInBounds_toArray, List.set_cons_zero, List.set_cons_succ, i64_w, i32_w]
                            rfl
                          refine pure_ (i := 11) (N := some 53) (v := ?_) (a' := ?_) #[true, true, true, true, true, true, true, true, true, true, true, true, false, true, false, false] rfl rfl (any_of HT_.out (by kernel_rfl)) (fun _ _ _ h => h) (Or.inl ⟨by rfl, ?_⟩) ?_ ?_
                          rotate_left
                          · intro w'
                            go_simp
                            with_reducible rfl
                          rotate_left
                          · simp only [Act.put, List.setIfInBounds_toArray, List.set_cons_zero, List.set_cons_succ, i64_w, i32_w]
                            rfl
                          refine pure_ (i := 12) (N := some 54) (v := ?_) (a' := ?_) #[true, true, true, true, true, true, true, true, true, true, true, true, true, true, false, false] rfl rfl (any_of HT_.out (by kernel_rfl)) (fun _ _ _ h => h) (Or.inl ⟨by rfl, ?_⟩) ?_ ?_
                          rotate_left
                          · intro w'
                            go_simp
                            with_reducible rfl
                          rotate_left
                          · simp only [Act.put, List.setIfInBounds_toArray, List.set_cons_zero, List.set_cons_succ, i64_w, i32_w]
                            rfl
                          exact norm_ (by simp only [putAll, Act.put, List.setIfInBounds_toArray, List.set_cons_zero, List.set_cons_succ]) (hCont (gb164) _ ⟨hHeld, (by (with_reducible repeat (first | apply Kd.R_alloc | apply Kd.R_drewN | apply Kd.R_drew)); exact HO_152002.out), (by (with_reducible repeat (first | apply Kd.R_alloc | apply Kd.R_drewN | apply Kd.R_drew)); exact HO_9.out), (by (with_reducible repeat (first | refine blk_drewN ?_ _ | refine blk_drew ?_ | refine blk_alloc ?_ _)); exact BK140.out), (by (with_reducible repeat (first | refine blk_drewN ?_ _ | refine blk_drew ?_ | refine blk_alloc ?_ _)); exact BK141.out), (by (with_reducible repeat (first | refine blk_drewN ?_ _ | refine blk_drew ?_ | refine blk_alloc ?_ _)); exact BK151.out), (by (with_reducible repeat (first | refine blk_drewN ?_ _ | refine blk_drew ?_ | refine blk_alloc ?_ _)); exact BK164.out), GW164.out, GE164.out, NB140_164.out, NB164_140.out, NB141_164.out, NB164_141.out, NB151_164.out, NB164_151.out, (by repeat (first | (with_reducible first | exact HB.out | apply below_alloc | apply pw_below_drewN | apply below_drew1 | refine below_set ?_ GE140.out | refine below_set ?_ GE141.out | refine below_set ?_ GE151.out | refine below_set ?_ GE164.out) | exact HB.out))⟩)
                      rintro gb164 w42 ⟨hS_, h0_, h1_, h2_, h3_, h4_, h5_, h6_, h7_, h8_, h9_, h10_, h11_, h12_, h13_, h14_⟩
                      have n0_ : Aside0 (Kd.R (Kd.int .u8) 5 w42 w.heap.size (fun k_ => some k_ ≠ (.slice Ao38 t147.length co38 : Value).ownBlock) (.slice Ao15 t144.length co15) t144) := ⟨h0_⟩
                      have n1_ : Aside0 (Kd.R (Kd.int .u8) 5 w42 w.heap.size (fun k_ => some k_ ≠ (.slice Ao15 t144.length co15 : Value).ownBlock) (.slice Ao38 t147.length co38) t147) := ⟨h1_⟩
                      have n2_ : Aside0 (w42.heap[gb140]? = some (.cells #[.int .i64 x141000_2, .int .i64 x141001_2, .int .i64 x141002_2, .int .i64 x141003_2, .int .i64 x141004_2, .int .i64 x141005_2, .int .i64 x141006_2, .int .i64 x141007_2] 33 (0, 0))) := ⟨h2_⟩
                      have n3_ : Aside0 (w42.heap[gb141]? = some (.cells #[.int .i64 x142000_2, .int .i64 x142001_2, .int .i64 x142002_2, .int .i64 x142003_2, .int .i64 x142004_2, .int .i64 x142005_2, .int .i64 x142006_2, .int .i64 x142007_2] 33 (0, 0))) := ⟨h3_⟩
                      have n4_ : Aside0 (w42.heap[gb151]? = some (.cells #[.int .i64 t142, .int .i64 t143, .slice Ao15 t144.length co15] 44 (0, 0))) := ⟨h4_⟩
                      have n5_ : Aside0 (w42.heap[gb164]? = some (.cells #[.int .i64 0, .int .i64 0, .int .i64 0, .int .i64 0, .int .i64 0, .int .i64 0, .int .i64 0, .int .i64 0] 33 (0, 0))) := ⟨h5_⟩
                      have n6_ : Aside0 (w.heap.size ≤ gb164) := ⟨h6_⟩
                      have n7_ : Aside0 (w.heap.size ≤ gb164) := ⟨h7_⟩
                      have n8_ : Aside0 (gb140 ≠ gb164) := ⟨h8_⟩
                      have n9_ : Aside0 (gb164 ≠ gb140) := ⟨h9_⟩
                      have n10_ : Aside0 (gb141 ≠ gb164) := ⟨h10_⟩
                      have n11_ : Aside0 (gb164 ≠ gb141) := ⟨h11_⟩
                      have n12_ : Aside0 (gb151 ≠ gb164) := ⟨h12_⟩
                      have n13_ : Aside0 (gb164 ≠ gb151) := ⟨h13_⟩
                      have n14_ : Aside0 (Below w.heap.size w w42) := ⟨h14_⟩
                      clear HO_9
                      clear HO_152002
                      clear BK140
                      clear BK141
                      clear BK151
                      clear HB
                      clear h0_ h1_ h2_ h3_ h4_ h5_ h6_ h7_ h8_ h9_ h10_ h11_ h12_ h13_ h14_
                      have HO_152002 := n0_
                      have HO_9 := n1_
                      have BK140 := n2_
                      have BK141 := n3_
                      have BK151 := n4_
                      have BK164 := n5_
                      have GW164 := n6_
                      have GE164 := n7_
                      have NB140_164 := n8_
                      have NB164_140 := n9_
                      have NB141_164 := n10_
                      have NB164_141 := n11_
                      have NB151_164 := n12_
                      have NB164_151 := n13_
                      have HB := n14_
                      clear n0_ n1_ n2_ n3_ n4_ n5_ n6_ n7_ n8_ n9_ n10_ n11_ n12_ n13_ n14_
                      have hHeld : w42.cell? ⟨gb151, 0, none⟩ = some (.int .i64 t142) ∧ w42.cell? ⟨gb151, 1, none⟩ = some (.int .i64 t143) ∧ w42.cell? ⟨gb151, 2, none⟩ = some (.slice Ao15 t144.length co15) ∧ w42.cell? ⟨gb140, 0, none⟩ = some (.int .i64 x141000_2) ∧ w42.cell? ⟨gb140, 1, none⟩ = some (.int .i64 x141001_2) ∧ w42.cell? ⟨gb140, 2, none⟩ = some (.int .i64 x141002_2) ∧ w42.cell? ⟨gb140, 3, none⟩ = some (.int .i64 x141003_2) ∧ w42.cell? ⟨gb140, 4, none⟩ = some (.int .i64 x141004_2) ∧ w42.cell? ⟨gb140, 5, none⟩ = some (.int .i64 x141005_2) ∧ w42.cell? ⟨gb140, 6, none⟩ = some (.int .i64 x141006_2) ∧ w42.cell? ⟨gb140, 7, none⟩ = some (.int .i64 x141007_2) := hS_
                      refine norm_ (a' := ?_) ?_ ?_
                      rotate_left
                      · simp only [putAll, Act.put, List.setIfInBounds_toArray, List.set_cons_zero, List.set_cons_succ]
                        rfl
                      refine one_ (i := 14) (N := none) #[true, true, true, true, true, true, true, true, true, true, true, true, true, true, true, false] rfl rfl (one_of HT_.out (by kernel_rfl)) (by decide) (fun K hK => ?_)
                      have hs43 : w42.cell? ⟨gb164, 0, none⟩ = some (.int .i64 0) := (blk_cell BK164.out 0).trans rfl
                      have hfs43 := blk_frozen BK164.out 0
                      have hns43_0 := NB140_164.out
                      have hns43_1 := NB141_164.out
                      have hns43_2 := NB151_164.out
                      have hms43_0 := NB164_140.out
                      have hms43_1 := NB164_141.out
                      have hms43_2 := NB164_151.out
                      have hs44 : w42.cell? ⟨gb164, 1, none⟩ = some (.int .i64 0) := (blk_cell BK164.out 1).trans rfl
                      have hfs44 := blk_frozen BK164.out 1
                      have hns44_0 := NB140_164.out
                      have hns44_1 := NB141_164.out
                      have hns44_2 := NB151_164.out
                      have hms44_0 := NB164_140.out
                      have hms44_1 := NB164_141.out
                      have hms44_2 := NB164_151.out
                      have hs45 : w42.cell? ⟨gb164, 2, none⟩ = some (.int .i64 0) := (blk_cell BK164.out 2).trans rfl
                      have hfs45 := blk_frozen BK164.out 2
                      have hns45_0 := NB140_164.out
                      have hns45_1 := NB141_164.out
                      have hns45_2 := NB151_164.out
                      have hms45_0 := NB164_140.out
                      have hms45_1 := NB164_141.out
                      have hms45_2 := NB164_151.out
                      have hs46 : w42.cell? ⟨gb164, 3, none⟩ = some (.int .i64 0) := (blk_cell BK164.out 3).trans rfl
                      have hfs46 := blk_frozen BK164.out 3
                      have hns46_0 := NB140_164.out
                      have hns46_1 := NB141_164.out
                      have hns46_2 := NB151_164.out
                      have hms46_0 := NB164_140.out
                      have hms46_1 := NB164_141.out
                      have hms46_2 := NB164_151.out
                      have hs47 : w42.cell? ⟨gb164, 4, none⟩ = some (.int .i64 0) := (blk_cell BK164.out 4).trans rfl
                      have hfs47 := blk_frozen BK164.out 4
                      have hns47_0 := NB140_164.out
                      have hns47_1 := NB141_164.out
                      have hns47_2 := NB151_164.out
                      have hms47_0 := NB164_140.out
                      have hms47_1 := NB164_141.out
                      have hms47_2 := NB164_151.out
                      have hs48 : w42.cell? ⟨gb164, 5, none⟩ = some (.int .i64 0) := (blk_cell BK164.out 5).trans rfl
                      have hfs48 := blk_frozen BK164.out 5
                      have hns48_0 := NB140_164.out
                      have hns48_1 := NB141_164.out
                      have hns48_2 := NB151_164.out
                      have hms48_0 := NB164_140.out
                      have hms48_1 := NB164_141.out
                      have hms48_2 := NB164_151.out
                      have hs49 : w42.cell? ⟨gb164, 6, none⟩ = some (.int .i64 0) := (blk_cell BK164.out 6).trans rfl
                      have hfs49 := blk_frozen BK164.out 6
                      have hns49_0 := NB140_164.out
                      have hns49_1 := NB141_164.out
                      have hns49_2 := NB151_164.out
                      have hms49_0 := NB164_140.out
                      have hms49_1 := NB164_141.out
                      have hms49_2 := NB164_151.out
                      have hs50 : w42.cell? ⟨gb164, 7, none⟩ = some (.int .i64 0) := (blk_cell BK164.out 7).trans rfl
                      have hfs50 := blk_frozen BK164.out 7
                      have hns50_0 := NB140_164.out
                      have hns50_1 := NB141_164.out
                      have hns50_2 := NB151_164.out
                      have hms50_0 := NB164_140.out
                      have hms50_1 := NB164_141.out
                      have hms50_2 := NB164_151.out
                      refine skip_ (w1 := ?_) (by rfl) rfl ?_ ?_
                      rotate_left
                      · go_simp
                        rfl
                      refine hK.out _ _ ⟨((cell_far (p := ⟨gb164, _, none⟩) NB151_164.out _).trans (((cell_far (p := ⟨gb164, _, none⟩) NB151_164.out _).trans (((cell_far (p := ⟨gb164, _, none⟩) NB151_164.out _).trans (((cell_far (p := ⟨gb164, _, none⟩) NB151_164.out _).trans (((cell_far (p := ⟨gb164, _, none⟩) NB151_164.out _).trans (((cell_far (p := ⟨gb164, _, none⟩) NB151_164.out _).trans (((cell_far (p := ⟨gb164, _, none⟩) NB151_164.out _).trans (((cell_far (p := ⟨gb164, _, none⟩) NB151_164.out _).trans (hHeld.1)))))))))))))))), ((cell_far (p := ⟨gb164, _, none⟩) NB151_164.out _).trans (((cell_far (p := ⟨gb164, _, none⟩) NB151_164.out _).trans (((cell_far (p := ⟨gb164, _, none⟩) NB151_164.out _).trans (((cell_far (p := ⟨gb164, _, none⟩) NB151_164.out _).trans (((cell_far (p := ⟨gb164, _, none⟩) NB151_164.out _).trans (((cell_far (p := ⟨gb164, _, none⟩) NB151_164.out _).trans (((cell_far (p := ⟨gb164, _, none⟩) NB151_164.out _).trans (((cell_far (p := ⟨gb164, _, none⟩) NB151_164.out _).trans (hHeld.2.1)))))))))))))))), ((cell_far (p := ⟨gb164, _, none⟩) NB151_164.out _).trans (((cell_far (p := ⟨gb164, _, none⟩) NB151_164.out _).trans (((cell_far (p := ⟨gb164, _, none⟩) NB151_164.out _).trans (((cell_far (p := ⟨gb164, _, none⟩) NB151_164.out _).trans (((cell_far (p := ⟨gb164, _, none⟩) NB151_164.out _).trans (((cell_far (p := ⟨gb164, _, none⟩) NB151_164.out _).trans (((cell_far (p := ⟨gb164, _, none⟩) NB151_164.out _).trans (((cell_far (p := ⟨gb164, _, none⟩) NB151_164.out _).trans (hHeld.2.2.1)))))))))))))))), ((cell_far (p := ⟨gb164, _, none⟩) NB140_164.out _).trans (((cell_far (p := ⟨gb164, _, none⟩) NB140_164.out _).trans (((cell_far (p := ⟨gb164, _, none⟩) NB140_164.out _).trans (((cell_far (p := ⟨gb164, _, none⟩) NB140_164.out _).trans (((cell_far (p := ⟨gb164, _, none⟩) NB140_164.out _).trans (((cell_far (p := ⟨gb164, _, none⟩) NB140_164.out _).trans (((cell_far (p := ⟨gb164, _, none⟩) NB140_164.out _).trans (((cell_far (p := ⟨gb164, _, none⟩) NB140_164.out _).trans (hHeld.2.2.2.1)))))))))))))))), ((cell_far (p := ⟨gb164, _, none⟩) NB140_164.out _).trans (((cell_far (p := ⟨gb164, _, none⟩) NB140_164.out _).trans (((cell_far (p := ⟨gb164, _, none⟩) NB140_164.out _).trans (((cell_far (p := ⟨gb164, _, none⟩) NB140_164.out _).trans (((cell_far (p := ⟨gb164, _, none⟩) NB140_164.out _).trans (((cell_far (p := ⟨gb164, _, none⟩) NB140_164.out _).trans (((cell_far (p := ⟨gb164, _, none⟩) NB140_164.out _).trans (((cell_far (p := ⟨gb164, _, none⟩) NB140_164.out _).trans (hHeld.2.2.2.2.1)))))))))))))))), ((cell_far (p := ⟨gb164, _, none⟩) NB140_164.out _).trans (((cell_far (p := ⟨gb164, _, none⟩) NB140_164.out _).trans (((cell_far (p := ⟨gb164, _, none⟩) NB140_164.out _).trans (((cell_far (p := ⟨gb164, _, none⟩) NB140_164.out _).trans (((cell_far (p := ⟨gb164, _, none⟩) NB140_164.out _).trans (((cell_far (p := ⟨gb164, _, none⟩) NB140_164.out _).trans (((cell_far (p := ⟨gb164, _, none⟩) NB140_164.out _).trans (((cell_far (p := ⟨gb164, _, none⟩) NB140_164.out _).trans (hHeld.2.2.2.2.2.1)))))))))))))))), ((cell_far (p := ⟨gb164, _, none⟩) NB140_164.out _).trans (((cell_far (p := ⟨gb164, _, none⟩) NB140_164.out _).trans (((cell_far (p := ⟨gb164, _, none⟩) NB140_164.out _).trans (((cell_far (p := ⟨gb164, _, none⟩) NB140_164.out _).trans (((cell_far (p := ⟨gb164, _, none⟩) NB140_164.out _).trans (((cell_far (p := ⟨gb164, _, none⟩) NB140_164.out _).trans (((cell_far (p := ⟨gb164, _, none⟩) NB140_164.out _).trans (((cell_far (p := ⟨gb164, _, none⟩) NB140_164.out _).trans (hHeld.2.2.2.2.2.2.1)))))))))))))))), ((cell_far (p := ⟨gb164, _, none⟩) NB140_164.out _).trans (((cell_far (p := ⟨gb164, _, none⟩) NB140_164.out _).trans (((cell_far (p := ⟨gb164, _, none⟩) NB140_164.out _).trans (((cell_far (p := ⟨gb164, _, none⟩) NB140_164.out _).trans (((cell_far (p := ⟨gb164, _, none⟩) NB140_164.out _).trans (((cell_far (p := ⟨gb164, _, none⟩) NB140_164.out _).trans (((cell_far (p := ⟨gb164, _, none⟩) NB140_164.out _).trans (((cell_far (p := ⟨gb164, _, none⟩) NB140_164.out _).trans (hHeld.2.2.2.2.2.2.2.1)))))))))))))))), ((cell_far (p := ⟨gb164, _, none⟩) NB140_164.out _).trans (((cell_far (p := ⟨gb164, _, none⟩) NB140_164.out _).trans (((cell_far (p := ⟨gb164, _, none⟩) NB140_164.out _).trans (((cell_far (p := ⟨gb164, _, none⟩) NB140_164.out _).trans (((cell_far (p := ⟨gb164, _, none⟩) NB140_164.out _).trans (((cell_far (p := ⟨gb164, _, none⟩) NB140_164.out _).trans (((cell_far (p := ⟨gb164, _, none⟩) NB140_164.out _).trans (((cell_far (p := ⟨gb164, _, none⟩) NB140_164.out _).trans (hHeld.2.2.2.2.2.2.2.2.1)))))))))))))))), ((cell_far (p := ⟨gb164, _, none⟩) NB140_164.out _).trans (((cell_far (p := ⟨gb164, _, none⟩) NB140_164.out _).trans (((cell_far (p := ⟨gb164, _, none⟩) NB140_164.out _).trans (((cell_far (p := ⟨gb164, _, none⟩) NB140_164.out _).trans (((cell_far (p := ⟨gb164, _, none⟩) NB140_164.out _).trans (((cell_far (p := ⟨gb164, _, none⟩) NB140_164.out _).trans (((cell_far (p := ⟨gb164, _, none⟩) NB140_164.out _).trans (((cell_far (p := ⟨gb164, _, none⟩) NB140_164.out _).trans (hHeld.2.2.2.2.2.2.2.2.2.1)))))))))))))))), ((cell_far (p := ⟨gb164, _, none⟩) NB140_164.out _).trans (((cell_far (p := ⟨gb164, _, none⟩) NB140_164.out _).trans (((cell_far (p := ⟨gb164, _, none⟩) NB140_164.out _).trans (((cell_far (p := ⟨gb164, _, none⟩) NB140_164.out _).trans (((cell_far (p := ⟨gb164, _, none⟩) NB140_164.out _).trans (((cell_far (p := ⟨gb164, _, none⟩) NB140_164.out _).trans (((cell_far (p := ⟨gb164, _, none⟩) NB140_164.out _).trans (((cell_far (p := ⟨gb164, _, none⟩) NB140_164.out _).trans (hHeld.2.2.2.2.2.2.2.2.2.2))))))))))))))))⟩ (fun hHeld => ?_)
                      clear hK K
                      refine pure_ (i := 15) (N := some 13) (v := ?_) (a' := ?_) #[true, true, true, true, true, true, true, true, true, true, true, true, true, true, true, true] rfl rfl (any_of HT_.out (by kernel_rfl)) (fun _ _ _ h => h) (Or.inl ⟨by rfl, ?_⟩) ?_ ?_
                      rotate_left
                      · intro w'
                        go_simp
                        with_reducible rfl
                      rotate_left
                      · simp only [Act.put, List.setIfInBounds_toArray, List.set_cons_zero, List.set_cons_succ, i64_w, i32_w]
                        rfl
                      refine done_ (done_of HT_.out (by kernel_rfl)) ?_
                      have hnb51 := NB164_140.out
                      have hnc51 := NB140_164.out
                      have hnb52 := NB164_141.out
                      have hnc52 := NB141_164.out
                      have hnb53 := NB164_151.out
                      have hnc53 := NB151_164.out
                      have hcz54_0 : w42.cell? ⟨gb164, 0, none⟩ = some (.int .i64 0) := (blk_cell BK164.out 0).trans rfl
                      have hcz54_1 : w42.cell? ⟨gb164, 1, none⟩ = some (.int .i64 0) := (blk_cell BK164.out 1).trans rfl
                      have hcz54_2 : w42.cell? ⟨gb164, 2, none⟩ = some (.int .i64 0) := (blk_cell BK164.out 2).trans rfl
                      have hcz54_3 : w42.cell? ⟨gb164, 3, none⟩ = some (.int .i64 0) := (blk_cell BK164.out 3).trans rfl
                      have hcz54_4 : w42.cell? ⟨gb164, 4, none⟩ = some (.int .i64 0) := (blk_cell BK164.out 4).trans rfl
                      have hcz54_5 : w42.cell? ⟨gb164, 5, none⟩ = some (.int .i64 0) := (blk_cell BK164.out 5).trans rfl
                      have hcz54_6 : w42.cell? ⟨gb164, 6, none⟩ = some (.int .i64 0) := (blk_cell BK164.out 6).trans rfl
                      have hcz54_7 : w42.cell? ⟨gb164, 7, none⟩ = some (.int .i64 0) := (blk_cell BK164.out 7).trans rfl
                      have hfz54_0 := blk_frozen BK164.out 0
                      have hfz54_1 := blk_frozen BK164.out 1
                      have hfz54_2 := blk_frozen BK164.out 2
                      have hfz54_3 := blk_frozen BK164.out 3
                      have hfz54_4 := blk_frozen BK164.out 4
                      have hfz54_5 := blk_frozen BK164.out 5
                      have hfz54_6 := blk_frozen BK164.out 6
                      have hfz54_7 := blk_frozen BK164.out 7
                      have hnb55 := NB140_141.out
                      have hnc55 := NB141_140.out
                      have hnb56 := NB140_151.out
                      have hnc56 := NB151_140.out
                      have hcz57_0 : w42.cell? ⟨gb140, 0, none⟩ = some (.int .i64 x141000_2) := (blk_cell BK140.out 0).trans rfl
                      have hcz57_1 : w42.cell? ⟨gb140, 1, none⟩ = some (.int .i64 x141001_2) := (blk_cell BK140.out 1).trans rfl
                      have hcz57_2 : w42.cell? ⟨gb140, 2, none⟩ = some (.int .i64 x141002_2) := (blk_cell BK140.out 2).trans rfl
                      have hcz57_3 : w42.cell? ⟨gb140, 3, none⟩ = some (.int .i64 x141003_2) := (blk_cell BK140.out 3).trans rfl
                      have hcz57_4 : w42.cell? ⟨gb140, 4, none⟩ = some (.int .i64 x141004_2) := (blk_cell BK140.out 4).trans rfl
                      have hcz57_5 : w42.cell? ⟨gb140, 5, none⟩ = some (.int .i64 x141005_2) := (blk_cell BK140.out 5).trans rfl
                      have hcz57_6 : w42.cell? ⟨gb140, 6, none⟩ = some (.int .i64 x141006_2) := (blk_cell BK140.out 6).trans rfl
                      have hcz57_7 : w42.cell? ⟨gb140, 7, none⟩ = some (.int .i64 x141007_2) := (blk_cell BK140.out 7).trans rfl
                      have hfz57_0 := blk_frozen BK140.out 0
                      have hfz57_1 := blk_frozen BK140.out 1
                      have hfz57_2 := blk_frozen BK140.out 2
                      have hfz57_3 := blk_frozen BK140.out 3
                      have hfz57_4 := blk_frozen BK140.out 4
                      have hfz57_5 := blk_frozen BK140.out 5
                      have hfz57_6 := blk_frozen BK140.out 6
                      have hfz57_7 := blk_frozen BK140.out 7
                      try go_wp2
                      go_roundg k2
                      case measure => have := HJ4.out; have := HK2.out; omega
                      case rel => exact ⟨(wrap64 (x11_2 + 1)), (t155), (t156), (t157), (t158), (t159), (t160), (t161), (t162), (x142000_2), (x142001_2), (x142002_2), (x142003_2), (x142004_2), (x142005_2), (x142006_2), (x142007_2), (by first | rfl | (simp; done) | (simp [*]; done)), H', ⟨by have := HJ4.out; have := HK2.out; omega⟩, ⟨by (with_reducible repeat (first | apply Kd.R_alloc | apply Kd.R_drewN | apply Kd.R_drew)); exact Kd.R_mono (Kd.R_far (p := ⟨gb140, 7, none⟩) (Kd.R_far (p := ⟨gb140, 6, none⟩) (Kd.R_far (p := ⟨gb140, 5, none⟩) (Kd.R_far (p := ⟨gb140, 4, none⟩) (Kd.R_far (p := ⟨gb140, 3, none⟩) (Kd.R_far (p := ⟨gb140, 2, none⟩) (Kd.R_far (p := ⟨gb140, 1, none⟩) (Kd.R_far (p := ⟨gb140, 0, none⟩) (Kd.R_far (p := ⟨gb164, 7, none⟩) (Kd.R_far (p := ⟨gb164, 6, none⟩) (Kd.R_far (p := ⟨gb164, 5, none⟩) (Kd.R_far (p := ⟨gb164, 4, none⟩) (Kd.R_far (p := ⟨gb164, 3, none⟩) (Kd.R_far (p := ⟨gb164, 2, none⟩) (Kd.R_far (p := ⟨gb164, 1, none⟩) (Kd.R_far (p := ⟨gb164, 0, none⟩) (Kd.R_types (Kd.R_types HO_9.out BK164.out (by decide)) BK140.out (by decide)) (fun _ hk => hk.1.2) (.int .i64 t155)) (fun _ hk => hk.1.2) (.int .i64 t156)) (fun _ hk => hk.1.2) (.int .i64 t157)) (fun _ hk => hk.1.2) (.int .i64 t158)) (fun _ hk => hk.1.2) (.int .i64 t159)) (fun _ hk => hk.1.2) (.int .i64 t160)) (fun _ hk => hk.1.2) (.int .i64 t161)) (fun _ hk => hk.1.2) (.int .i64 t162)) (fun _ hk => hk.2) (.int .i64 t155)) (fun _ hk => hk.2) (.int .i64 t156)) (fun _ hk => hk.2) (.int .i64 t157)) (fun _ hk => hk.2) (.int .i64 t158)) (fun _ hk => hk.2) (.int .i64 t159)) (fun _ hk => hk.2) (.int .i64 t160)) (fun _ hk => hk.2) (.int .i64 t161)) (fun _ hk => hk.2) (.int .i64 t162)) (fun _ hk => hk.1.1)⟩, ⟨by (with_reducible repeat (first | apply Kd.R_alloc | apply Kd.R_drewN | apply Kd.R_drew)); exact Kd.R_mono (Kd.R_far (p := ⟨gb140, 7, none⟩) (Kd.R_far (p := ⟨gb140, 6, none⟩) (Kd.R_far (p := ⟨gb140, 5, none⟩) (Kd.R_far (p := ⟨gb140, 4, none⟩) (Kd.R_far (p := ⟨gb140, 3, none⟩) (Kd.R_far (p := ⟨gb140, 2, none⟩) (Kd.R_far (p := ⟨gb140, 1, none⟩) (Kd.R_far (p := ⟨gb140, 0, none⟩) (Kd.R_far (p := ⟨gb164, 7, none⟩) (Kd.R_far (p := ⟨gb164, 6, none⟩) (Kd.R_far (p := ⟨gb164, 5, none⟩) (Kd.R_far (p := ⟨gb164, 4, none⟩) (Kd.R_far (p := ⟨gb164, 3, none⟩) (Kd.R_far (p := ⟨gb164, 2, none⟩) (Kd.R_far (p := ⟨gb164, 1, none⟩) (Kd.R_far (p := ⟨gb164, 0, none⟩) (Kd.R_types (Kd.R_types HO_152002.out BK164.out (by decide)) BK140.out (by decide)) (fun _ hk => hk.1.2) (.int .i64 t155)) (fun _ hk => hk.1.2) (.int .i64 t156)) (fun _ hk => hk.1.2) (.int .i64 t157)) (fun _ hk => hk.1.2) (.int .i64 t158)) (fun _ hk => hk.1.2) (.int .i64 t159)) (fun _ hk => hk.1.2) (.int .i64 t160)) (fun _ hk => hk.1.2) (.int .i64 t161)) (fun _ hk => hk.1.2) (.int .i64 t162)) (fun _ hk => hk.2) (.int .i64 t155)) (fun _ hk => hk.2) (.int .i64 t156)) (fun _ hk => hk.2) (.int .i64 t157)) (fun _ hk => hk.2) (.int .i64 t158)) (fun _ hk => hk.2) (.int .i64 t159)) (fun _ hk => hk.2) (.int .i64 t160)) (fun _ hk => hk.2) (.int .i64 t161)) (fun _ hk => hk.2) (.int .i64 t162)) (fun _ hk => hk.1.1)⟩, ⟨by (with_reducible repeat (first | refine blk_drewN ?_ _ | refine blk_drew ?_ | refine blk_alloc ?_ _)); refine blk_put (cs := #[.int .i64 t155, .int .i64 t156, .int .i64 t157, .int .i64 t158, .int .i64 t159, .int .i64 t160, .int .i64 t161, .int .i64 x141007_2]) ?_ 7 _ rfl; (with_reducible repeat (first | refine blk_drewN ?_ _ | refine blk_drew ?_ | refine blk_alloc ?_ _)); refine blk_put (cs := #[.int .i64 t155, .int .i64 t156, .int .i64 t157, .int .i64 t158, .int .i64 t159, .int .i64 t160, .int .i64 x141006_2, .int .i64 x141007_2]) ?_ 6 _ rfl; (with_reducible repeat (first | refine blk_drewN ?_ _ | refine blk_drew ?_ | refine blk_alloc ?_ _)); refine blk_put (cs := #[.int .i64 t155, .int .i64 t156, .int .i64 t157, .int .i64 t158, .int .i64 t159, .int .i64 x141005_2, .int .i64 x141006_2, .int .i64 x141007_2]) ?_ 5 _ rfl; (with_reducible repeat (first | refine blk_drewN ?_ _ | refine blk_drew ?_ | refine blk_alloc ?_ _)); refine blk_put (cs := #[.int .i64 t155, .int .i64 t156, .int .i64 t157, .int .i64 t158, .int .i64 x141004_2, .int .i64 x141005_2, .int .i64 x141006_2, .int .i64 x141007_2]) ?_ 4 _ rfl; (with_reducible repeat (first | refine blk_drewN ?_ _ | refine blk_drew ?_ | refine blk_alloc ?_ _)); refine blk_put (cs := #[.int .i64 t155, .int .i64 t156, .int .i64 t157, .int .i64 x141003_2, .int .i64 x141004_2, .int .i64 x141005_2, .int .i64 x141006_2, .int .i64 x141007_2]) ?_ 3 _ rfl; (with_reducible repeat (first | refine blk_drewN ?_ _ | refine blk_drew ?_ | refine blk_alloc ?_ _)); refine blk_put (cs := #[.int .i64 t155, .int .i64 t156, .int .i64 x141002_2, .int .i64 x141003_2, .int .i64 x141004_2, .int .i64 x141005_2, .int .i64 x141006_2, .int .i64 x141007_2]) ?_ 2 _ rfl; (with_reducible repeat (first | refine blk_drewN ?_ _ | refine blk_drew ?_ | refine blk_alloc ?_ _)); refine blk_put (cs := #[.int .i64 t155, .int .i64 x141001_2, .int .i64 x141002_2, .int .i64 x141003_2, .int .i64 x141004_2, .int .i64 x141005_2, .int .i64 x141006_2, .int .i64 x141007_2]) ?_ 1 _ rfl; (with_reducible repeat (first | refine blk_drewN ?_ _ | refine blk_drew ?_ | refine blk_alloc ?_ _)); refine blk_put (cs := #[.int .i64 x141000_2, .int .i64 x141001_2, .int .i64 x141002_2, .int .i64 x141003_2, .int .i64 x141004_2, .int .i64 x141005_2, .int .i64 x141006_2, .int .i64 x141007_2]) ?_ 0 _ rfl; (with_reducible repeat (first | refine blk_drewN ?_ _ | refine blk_drew ?_ | refine blk_alloc ?_ _)); refine blk_far ?_ NB140_164.out _; (with_reducible repeat (first | refine blk_drewN ?_ _ | refine blk_drew ?_ | refine blk_alloc ?_ _)); refine blk_far ?_ NB140_164.out _; (with_reducible repeat (first | refine blk_drewN ?_ _ | refine blk_drew ?_ | refine blk_alloc ?_ _)); refine blk_far ?_ NB140_164.out _; (with_reducible repeat (first | refine blk_drewN ?_ _ | refine blk_drew ?_ | refine blk_alloc ?_ _)); refine blk_far ?_ NB140_164.out _; (with_reducible repeat (first | refine blk_drewN ?_ _ | refine blk_drew ?_ | refine blk_alloc ?_ _)); refine blk_far ?_ NB140_164.out _; (with_reducible repeat (first | refine blk_drewN ?_ _ | refine blk_drew ?_ | refine blk_alloc ?_ _)); refine blk_far ?_ NB140_164.out _; (with_reducible repeat (first | refine blk_drewN ?_ _ | refine blk_drew ?_ | refine blk_alloc ?_ _)); refine blk_far ?_ NB140_164.out _; (with_reducible repeat (first | refine blk_drewN ?_ _ | refine blk_drew ?_ | refine blk_alloc ?_ _)); refine blk_far ?_ NB140_164.out _; (with_reducible repeat (first | refine blk_drewN ?_ _ | refine blk_drew ?_ | refine blk_alloc ?_ _)); exact BK140.out⟩, ⟨by (with_reducible repeat (first | refine blk_drewN ?_ _ | refine blk_drew ?_ | refine blk_alloc ?_ _)); refine blk_far ?_ NB141_140.out _; (with_reducible repeat (first | refine blk_drewN ?_ _ | refine blk_drew ?_ | refine blk_alloc ?_ _)); refine blk_far ?_ NB141_140.out _; (with_reducible repeat (first | refine blk_drewN ?_ _ | refine blk_drew ?_ | refine blk_alloc ?_ _)); refine blk_far ?_ NB141_140.out _; (with_reducible repeat (first | refine blk_drewN ?_ _ | refine blk_drew ?_ | refine blk_alloc ?_ _)); refine blk_far ?_ NB141_140.out _; (with_reducible repeat (first | refine blk_drewN ?_ _ | refine blk_drew ?_ | refine blk_alloc ?_ _)); refine blk_far ?_ NB141_140.out _; (with_reducible repeat (first | refine blk_drewN ?_ _ | refine blk_drew ?_ | refine blk_alloc ?_ _)); refine blk_far ?_ NB141_140.out _; (with_reducible repeat (first | refine blk_drewN ?_ _ | refine blk_drew ?_ | refine blk_alloc ?_ _)); refine blk_far ?_ NB141_140.out _; (with_reducible repeat (first | refine blk_drewN ?_ _ | refine blk_drew ?_ | refine blk_alloc ?_ _)); refine blk_far ?_ NB141_140.out _; (with_reducible repeat (first | refine blk_drewN ?_ _ | refine blk_drew ?_ | refine blk_alloc ?_ _)); refine blk_far ?_ NB141_164.out _; (with_reducible repeat (first | refine blk_drewN ?_ _ | refine blk_drew ?_ | refine blk_alloc ?_ _)); refine blk_far ?_ NB141_164.out _; (with_reducible repeat (first | refine blk_drewN ?_ _ | refine blk_drew ?_ | refine blk_alloc ?_ _)); refine blk_far ?_ NB141_164.out _; (with_reducible repeat (first | refine blk_drewN ?_ _ | refine blk_drew ?_ | refine blk_alloc ?_ _)); refine blk_far ?_ NB141_164.out _; (with_reducible repeat (first | refine blk_drewN ?_ _ | refine blk_drew ?_ | refine blk_alloc ?_ _)); refine blk_far ?_ NB141_164.out _; (with_reducible repeat (first | refine blk_drewN ?_ _ | refine blk_drew ?_ | refine blk_alloc ?_ _)); refine blk_far ?_ NB141_164.out _; (with_reducible repeat (first | refine blk_drewN ?_ _ | refine blk_drew ?_ | refine blk_alloc ?_ _)); refine blk_far ?_ NB141_164.out _; (with_reducible repeat (first | refine blk_drewN ?_ _ | refine blk_drew ?_ | refine blk_alloc ?_ _)); refine blk_far ?_ NB141_164.out _; (with_reducible repeat (first | refine blk_drewN ?_ _ | refine blk_drew ?_ | refine blk_alloc ?_ _)); exact BK141.out⟩, ⟨by (with_reducible repeat (first | refine blk_drewN ?_ _ | refine blk_drew ?_ | refine blk_alloc ?_ _)); refine blk_far ?_ NB151_140.out _; (with_reducible repeat (first | refine blk_drewN ?_ _ | refine blk_drew ?_ | refine blk_alloc ?_ _)); refine blk_far ?_ NB151_140.out _; (with_reducible repeat (first | refine blk_drewN ?_ _ | refine blk_drew ?_ | refine blk_alloc ?_ _)); refine blk_far ?_ NB151_140.out _; (with_reducible repeat (first | refine blk_drewN ?_ _ | refine blk_drew ?_ | refine blk_alloc ?_ _)); refine blk_far ?_ NB151_140.out _; (with_reducible repeat (first | refine blk_drewN ?_ _ | refine blk_drew ?_ | refine blk_alloc ?_ _)); refine blk_far ?_ NB151_140.out _; (with_reducible repeat (first | refine blk_drewN ?_ _ | refine blk_drew ?_ | refine blk_alloc ?_ _)); refine blk_far ?_ NB151_140.out _; (with_reducible repeat (first | refine blk_drewN ?_ _ | refine blk_drew ?_ | refine blk_alloc ?_ _)); refine blk_far ?_ NB151_140.out _; (with_reducible repeat (first | refine blk_drewN ?_ _ | refine blk_drew ?_ | refine blk_alloc ?_ _)); refine blk_far ?_ NB151_140.out _; (with_reducible repeat (first | refine blk_drewN ?_ _ | refine blk_drew ?_ | refine blk_alloc ?_ _)); refine blk_far ?_ NB151_164.out _; (with_reducible repeat (first | refine blk_drewN ?_ _ | refine blk_drew ?_ | refine blk_alloc ?_ _)); refine blk_far ?_ NB151_164.out _; (with_reducible repeat (first | refine blk_drewN ?_ _ | refine blk_drew ?_ | refine blk_alloc ?_ _)); refine blk_far ?_ NB151_164.out _; (with_reducible repeat (first | refine blk_drewN ?_ _ | refine blk_drew ?_ | refine blk_alloc ?_ _)); refine blk_far ?_ NB151_164.out _; (with_reducible repeat (first | refine blk_drewN ?_ _ | refine blk_drew ?_ | refine blk_alloc ?_ _)); refine blk_far ?_ NB151_164.out _; (with_reducible repeat (first | refine blk_drewN ?_ _ | refine blk_drew ?_ | refine blk_alloc ?_ _)); refine blk_far ?_ NB151_164.out _; (with_reducible repeat (first | refine blk_drewN ?_ _ | refine blk_drew ?_ | refine blk_alloc ?_ _)); refine blk_far ?_ NB151_164.out _; (with_reducible repeat (first | refine blk_drewN ?_ _ | refine blk_drew ?_ | refine blk_alloc ?_ _)); refine blk_far ?_ NB151_164.out _; (with_reducible repeat (first | refine blk_drewN ?_ _ | refine blk_drew ?_ | refine blk_alloc ?_ _)); exact BK151.out⟩, ⟨by repeat (first | (with_reducible first | exact HB.out | apply below_alloc | apply pw_below_drewN | apply below_drew1 | refine below_set ?_ GE140.out | refine below_set ?_ GE141.out | refine below_set ?_ GE151.out | refine below_set ?_ GE164.out) | exact HB.out)⟩⟩
                    · replace c37 := Bool.eq_false_iff.mpr c37
                      subst c37
                      have H1 : (some (0, 0, 0, 0, 0, 0, 0, 0, false)) = some (r1, r2, r3, r4, r5, r6, r7, r8, r9) := by rw [if_neg (show ¬ (false = true) by decide)] at H; exact H
                      clear H
                      have H := H1
                      clear H1
                      simp only [Option.some.injEq, Prod.mk.injEq] at H
                      obtain ⟨rfl, rfl, rfl, rfl, rfl, rfl, rfl, rfl, rfl⟩ := H
                      obtain ⟨Ao58, co58, eo58⟩ := Kd.R_slice HO_9.out
                      subst eo58
                      try go_wp2
                      have n0_ := Aside0.mk (Kd.R_drew HO_9.out)
                      have n1_ := Aside0.mk (Kd.R_drew HO_152002.out)
                      have n2_ := Aside0.mk (blk_drew BK140.out)
                      have n3_ := Aside0.mk (blk_drew BK141.out)
                      have n4_ := Aside0.mk (blk_drew BK151.out)
                      have n5_ := Aside0.mk (below_drew1 HB.out)
                      clear HO_9
                      clear HO_152002
                      clear BK140
                      clear BK141
                      clear BK151
                      clear HB
                      have HO_9 := n0_
                      have HO_152002 := n1_
                      have BK140 := n2_
                      have BK141 := n3_
                      have BK151 := n4_
                      have HB := n5_
                      clear n0_ n1_ n2_ n3_ n4_ n5_
                      refine start_ (n := 16) (S := fun w' => w'.cell? ⟨gb151, 0, none⟩ = some (.int .i64 t142) ∧ w'.cell? ⟨gb151, 1, none⟩ = some (.int .i64 t143) ∧ w'.cell? ⟨gb151, 2, none⟩ = some (.slice Ao15 t144.length co15) ∧ w'.cell? ⟨gb140, 0, none⟩ = some (.int .i64 x141000_2) ∧ w'.cell? ⟨gb140, 1, none⟩ = some (.int .i64 x141001_2) ∧ w'.cell? ⟨gb140, 2, none⟩ = some (.int .i64 x141002_2) ∧ w'.cell? ⟨gb140, 3, none⟩ = some (.int .i64 x141003_2) ∧ w'.cell? ⟨gb140, 4, none⟩ = some (.int .i64 x141004_2) ∧ w'.cell? ⟨gb140, 5, none⟩ = some (.int .i64 x141005_2) ∧ w'.cell? ⟨gb140, 6, none⟩ = some (.int .i64 x141006_2) ∧ w'.cell? ⟨gb140, 7, none⟩ = some (.int .i64 x141007_2)) (ds := []) #[false, false, false, false, false, false, false, false, false, false, false, false, false, false, false, false] (by kernel_rfl) rfl rfl ⟨(blk_cell BK151.out 0).trans rfl, (blk_cell BK151.out 1).trans rfl, (blk_cell BK151.out 2).trans rfl, (blk_cell BK140.out 0).trans rfl, (blk_cell BK140.out 1).trans rfl, (blk_cell BK140.out 2).trans rfl, (blk_cell BK140.out 3).trans rfl, (blk_cell BK140.out 4).trans rfl, (blk_cell BK140.out 5).trans rfl, (blk_cell BK140.out 6).trans rfl, (blk_cell BK140.out 7).trans rfl⟩ (fun hHeld => ?_); refine with_tabW spec_RollOverLabels.tab7 spec_RollOverLabels.bits7 (fun HT_ HW_ => ?_)
                      generalize wr.drew = w59 at HO_9 HO_152002 BK140 BK141 BK151 HB hHeld ⊢
                      refine pure_ (i := 1) (N := some 44) (v := ?_) (a' := ?_) #[false, true, false, false, false, false, false, false, false, false, false, false, false, false, false, false] rfl rfl (any_of HT_.out (by kernel_rfl)) (fun _ _ _ h => h) (Or.inl ⟨by rfl, ?_⟩) ?_ ?_
                      rotate_left
                      · intro w'
                        go_simp
                        with_reducible rfl
                      rotate_left
                      · simp only [Act.put, List.setIfInBounds_toArray, List.set_cons_zero, List.set_cons_succ, i64_w, i32_w]
                        rfl
                      refine pure_ (i := 3) (N := some 46) (v := ?_) (a' := ?_) #[false, true, false, true, false, false, false, false, false, false, false, false, false, false, false, false] rfl rfl (any_of HT_.out (by kernel_rfl)) (fun _ _ _ h => h) (Or.inl ⟨by rfl, ?_⟩) ?_ ?_
                      rotate_left
                      · intro w'
                        go_simp
                        with_reducible rfl
                      rotate_left
                      · simp only [Act.put, List.setIfInBounds_toArray, List.set_cons_zero, List.set_cons_succ, i64_w, i32_w]
                        rfl
                      refine pure_ (i := 4) (N := some 47) (v := ?_) (a' := ?_) #[false, true, false, true, true, false, false, false, false, false, false, false, false, false, false, false] rfl rfl (any_of HT_.out (by kernel_rfl)) (fun _ _ _ h => h) (Or.inl ⟨by rfl, ?_⟩) ?_ ?_
                      rotate_left
                      · intro w'
                        go_simp
                        with_reducible rfl
                      rotate_left
                      · simp only [Act.put, List.setIfInBounds_toArray, List.set_cons_zero, List.set_cons_succ, i64_w, i32_w]
                        rfl
                      refine pure_ (i := 5) (N := some 48) (v := ?_) (a' := ?_) #[false, true, false, true, true, true, false, false, false, false, false, false, false, false, false, false] rfl rfl (any_of HT_.out (by kernel_rfl)) (fun _ _ _ h => h) (Or.inl ⟨by rfl, ?_⟩) ?_ ?_
                      rotate_left
                      · intro w'
                        go_simp
                        with_reducible rfl
                      rotate_left
                      · simp only [Act.put, List.setIfInBounds_toArray, List.set_cons_zero, List.set_cons_succ, i64_w, i32_w]
                        rfl
                      refine pure_ (i := 6) (N := some 49) (v := ?_) (a' := ?_) #[false, true, false, true, true, true, true, false, false, false, false, false, false, false, false, false] rfl rfl (any_of HT_.out (by kernel_rfl)) (fun _ _ _ h => h) (Or.inl ⟨by rfl, ?_⟩) ?_ ?_
                      rotate_left
                      · intro w'
                        go_simp
                        with_reducible rfl
                      rotate_left
                      · simp only [Act.put, List.setIfInBounds_toArray, List.set_cons_zero, List.set_cons_succ, i64_w, i32_w]
                        rfl
                      refine pure_ (i := 7) (N := some 50) (v := ?_) (a' := ?_) #[false, true, false, true, true, true, true, true, false, false, false, false, false, false, false, false] rfl rfl (any_of HT_.out (by kernel_rfl)) (fun _ _ _ h => h) (Or.inl ⟨by rfl, ?_⟩) ?_ ?_
                      rotate_left
                      · intro w'
                        go_simp
                        with_reducible rfl
                      rotate_left
                      · simp only [Act.put, List.setIfInBounds_toArray, List.set_cons_zero, List.set_cons_succ, i64_w, i32_w]
                        rfl
                      refine take_ (i := 0) (N := some 43) (v := ?_) (a' := ?_) #[true, true, false, true, true, true, true, true, false, false, false, false, false, false, false, false] rfl rfl (take_ofW HT_.out HW_.out (by kernel_rfl)) (fun _ _ _ h => h) (Or.inl ⟨by rfl, ?_⟩) hHeld ?_ ?_
                      rotate_left
                      · rintro w' ⟨s0, s1, s2, s3, s4, s5, s6, s7, s8, s9, s10⟩
                        go_simp
                        with_reducible rfl
                      rotate_left
                      · simp only [Act.put, List.setIfInBounds_toArray, List.set_cons_zero, List.set_cons_succ, i64_w, i32_w]
                        rfl
                      refine take_ (i := 2) (N := some 45) (v := ?_) (a' := ?_) #[true, true, true, true, true, true, true, true, false, false, false, false, false, false, false, false] rfl rfl (take_ofW HT_.out HW_.out (by kernel_rfl)) (fun _ _ _ h => h) (Or.inl ⟨by rfl, ?_⟩) hHeld ?_ ?_
                      rotate_left
                      · rintro w' ⟨s0, s1, s2, s3, s4, s5, s6, s7, s8, s9, s10⟩
                        go_simp
                        with_reducible rfl
                      rotate_left
                      · simp only [Act.put, List.setIfInBounds_toArray, List.set_cons_zero, List.set_cons_succ, i64_w, i32_w]
                        rfl
                      refine join_ (σ := Nat) 2 #[true, true, true, true, true, true, true, true, true, true, true, true, true, true, false, false] (fun s_ => [(51, .int .i64 t154), (52, .tuple #[.agg #[.int .i64 t155, .int .i64 t156, .int .i64 t157, .int .i64 t158, .int .i64 t159, .int .i64 t160, .int .i64 t161, .int .i64 t162], .bool false]), (12, .pointer (some ⟨s_, 0, none⟩)), (42, .tuple #[.agg #[.int .i64 t155, .int .i64 t156, .int .i64 t157, .int .i64 t158, .int .i64 t159, .int .i64 t160, .int .i64 t161, .int .i64 t162], .bool false]), (53, .agg #[.int .i64 t155, .int .i64 t156, .int .i64 t157, .int .i64 t158, .int .i64 t159, .int .i64 t160, .int .i64 t161, .int .i64 t162]), (54, .bool false)]) (fun s_ w' => (w'.cell? ⟨gb151, 0, none⟩ = some (.int .i64 t142) ∧ w'.cell? ⟨gb151, 1, none⟩ = some (.int .i64 t143) ∧ w'.cell? ⟨gb151, 2, none⟩ = some (.slice Ao15 t144.length co15) ∧ w'.cell? ⟨gb140, 0, none⟩ = some (.int .i64 x141000_2) ∧ w'.cell? ⟨gb140, 1, none⟩ = some (.int .i64 x141001_2) ∧ w'.cell? ⟨gb140, 2, none⟩ = some (.int .i64 x141002_2) ∧ w'.cell? ⟨gb140, 3, none⟩ = some (.int .i64 x141003_2) ∧ w'.cell? ⟨gb140, 4, none⟩ = some (.int .i64 x141004_2) ∧ w'.cell? ⟨gb140, 5, none⟩ = some (.int .i64 x141005_2) ∧ w'.cell? ⟨gb140, 6, none⟩ = some (.int .i64 x141006_2) ∧ w'.cell? ⟨gb140, 7, none⟩ = some (.int .i64 x141007_2)) ∧ (Kd.R (Kd.int .u8) 5 w' w.heap.size (fun k_ => some k_ ≠ (.slice Ao58 t147.length co58 : Value).ownBlock) (.slice Ao15 t144.length co15) t144) ∧ (Kd.R (Kd.int .u8) 5 w' w.heap.size (fun k_ => some k_ ≠ (.slice Ao15 t144.length co15 : Value).ownBlock) (.slice Ao58 t147.length co58) t147) ∧ (w'.heap[gb140]? = some (.cells #[.int .i64 x141000_2, .int .i64 x141001_2, .int .i64 x141002_2, .int .i64 x141003_2, .int .i64 x141004_2, .int .i64 x141005_2, .int .i64 x141006_2, .int .i64 x141007_2] 33 (0, 0))) ∧ (w'.heap[gb141]? = some (.cells #[.int .i64 x142000_2, .int .i64 x142001_2, .int .i64 x142002_2, .int .i64 x142003_2, .int .i64 x142004_2, .int .i64 x142005_2, .int .i64 x142006_2, .int .i64 x142007_2] 33 (0, 0))) ∧ (w'.heap[gb151]? = some (.cells #[.int .i64 t142, .int .i64 t143, .slice Ao15 t144.length co15] 44 (0, 0))) ∧ (w'.heap[s_]? = some (.cells #[.int .i64 0, .int .i64 0, .int .i64 0, .int .i64 0, .int .i64 0, .int .i64 0, .int .i64 0, .int .i64 0] 33 (0, 0))) ∧ (w.heap.size ≤ s_) ∧ (w.heap.size ≤ s_) ∧ (gb140 ≠ s_) ∧ (s_ ≠ gb140) ∧ (gb141 ≠ s_) ∧ (s_ ≠ gb141) ∧ (gb151 ≠ s_) ∧ (s_ ≠ gb151) ∧ (Below w.heap.size w w')) ?_ ?_
                      rotate_left
                      · intro hCont
                        refine two_ (i := 8) (j := 13) (Ni := some 51) (Nj := some 12) #[true, true, true, true, true, true, true, true, true, false, false, false, false, false, false, false] #[true, true, true, true, true, true, true, true, false, false, false, false, false, true, false, false] rfl rfl rfl rfl (two_of HT_.out (by kernel_rfl)) (by decide) (by decide) (fun K hK => ?_) (fun K hK => ?_)
                        · skip
                          refine goes_ Tryd.func33 (by kernel_rfl) rfl #[.string (a2.extract (x11_2 : Int).toNat ((wrap64 (x11_2 + 1)) : Int).toNat)] (by rfl) rfl rfl (by (try simp only [List.map_toArray, List.map_cons, List.map_nil]); first | done | rfl | (simp only [List.length_drop, List.length_take]; rfl)) ?_
                          with_reducible refine (spec_diDir.calls k2 (a2.extract (x11_2 : Int).toNat ((wrap64 (x11_2 + 1)) : Int).toNat) t154 _ A35.out).mono ?_
                          rintro e w' ⟨rfl, ⟨nd, rfl⟩⟩
                          refine ⟨_, rfl, ?_⟩
                          refine hK.out _ _ ⟨(blk_cell BK151.out 0).trans rfl, (blk_cell BK151.out 1).trans rfl, (blk_cell BK151.out 2).trans rfl, (blk_cell BK140.out 0).trans rfl, (blk_cell BK140.out 1).trans rfl, (blk_cell BK140.out 2).trans rfl, (blk_cell BK140.out 3).trans rfl, (blk_cell BK140.out 4).trans rfl, (blk_cell BK140.out 5).trans rfl, (blk_cell BK140.out 6).trans rfl, (blk_cell BK140.out 7).trans rfl⟩ (fun hHeld => ?_)
                          clear hK K
                          refine norm_ (a' := ?_) ?_ ?_
                          rotate_left
                          · show Act.put _ (some 51) _ = _
                            simp only [Act.put, List.setIfInBounds_toArray, List.set_cons_zero, List.set_cons_succ, i64_w, i32_w]
                            rfl
                          refine two_ (i := 9) (j := 13) (Ni := some 52) (Nj := some 12) #[true, true, true, true, true, true, true, true, true, true, false, false, false, false, false, false] #[true, true, true, true, true, true, true, true, true, false, false, false, false, true, false, false] rfl rfl rfl rfl (two_of HT_.out (by kernel_rfl)) (by decide) (by decide) (fun K hK => ?_) (fun K hK => ?_)
                          · skip
                            refine goes_ Tryd.func29 (by kernel_rfl) rfl #[.agg #[.int .i64 t142, .int .i64 t143, .slice Ao15 t144.length co15], .slice Ao58 t147.length co58, .agg #[.int .i64 x141000_2, .int .i64 x141001_2, .int .i64 x141002_2, .int .i64 x141003_2, .int .i64 x141004_2, .int .i64 x141005_2, .int .i64 x141006_2, .int .i64 x141007_2], .int .i64 t154] (by rfl) rfl rfl (by (try simp only [List.map_toArray, List.map_cons, List.map_nil]); first | done | rfl | (simp only [List.length_drop, List.length_take]; rfl)) ?_
                            with_reducible refine (spec_prRoll.calls t142 t143 _ _ t144 _ _ t147 x141000_2 x141001_2 x141002_2 x141003_2 x141004_2 x141005_2 x141006_2 x141007_2 t154 t155 t156 t157 t158 t159 t160 t161 t162 false _ ?side1 ?side2 ?side3 ?side4 A36.out).mono ?_
                            (case side1 => repeat (first | exact (Kd.R_reads' HO_152002.out).2.2 | (with_reducible refine Kd.C_alloc ?_ _) | (with_reducible refine Kd.C_drewN ?_ _) | (with_reducible refine Kd.C_drew ?_)))
                            (case side2 => exact (Kd.R_reads' HO_152002.out).2.1)
                            (case side3 => repeat (first | exact (Kd.R_reads' HO_9.out).2.2 | (with_reducible refine Kd.C_alloc ?_ _) | (with_reducible refine Kd.C_drewN ?_ _) | (with_reducible refine Kd.C_drew ?_)))
                            (case side4 => exact (Kd.R_reads' HO_9.out).2.1)
                            rintro e w60 ⟨rfl, hb⟩
                            refine ⟨_, rfl, ?_⟩
                            have n0_ := Aside0.mk (Kd.R_below (by (with_reducible repeat (first | apply Kd.R_alloc | apply Kd.R_drewN | apply Kd.R_drew)); exact HO_9.out) hb)
                            have n1_ := Aside0.mk (Kd.R_below (by (with_reducible repeat (first | apply Kd.R_alloc | apply Kd.R_drewN | apply Kd.R_drew)); exact HO_152002.out) hb)
                            have n2_ := Aside0.mk (blk_below (g := gb140) (o := .cells #[.int .i64 x141000_2, .int .i64 x141001_2, .int .i64 x141002_2, .int .i64 x141003_2, .int .i64 x141004_2, .int .i64 x141005_2, .int .i64 x141006_2, .int .i64 x141007_2] 33 (0, 0)) (by (with_reducible repeat (first | refine blk_drewN ?_ _ | refine blk_drew ?_ | refine blk_alloc ?_ _)); exact BK140.out) hb)
                            have n3_ := Aside0.mk (blk_below (g := gb141) (o := .cells #[.int .i64 x142000_2, .int .i64 x142001_2, .int .i64 x142002_2, .int .i64 x142003_2, .int .i64 x142004_2, .int .i64 x142005_2, .int .i64 x142006_2, .int .i64 x142007_2] 33 (0, 0)) (by (with_reducible repeat (first | refine blk_drewN ?_ _ | refine blk_drew ?_ | refine blk_alloc ?_ _)); exact BK141.out) hb)
                            have n4_ := Aside0.mk (blk_below (g := gb151) (o := .cells #[.int .i64 t142, .int .i64 t143, .slice Ao15 t144.length co15] 44 (0, 0)) (by (with_reducible repeat (first | refine blk_drewN ?_ _ | refine blk_drew ?_ | refine blk_alloc ?_ _)); exact BK151.out) hb)
                            have n5_ := Aside0.mk (below_step (by repeat (first | (with_reducible first | exact HB.out | apply below_alloc | apply pw_below_drewN | apply below_drew1 | refine below_set ?_ GE140.out | refine below_set ?_ GE141.out | refine below_set ?_ GE151.out) | exact HB.out)) hb)
                            clear HO_9
                            clear HO_152002
                            clear BK140
                            clear BK141
                            clear BK151
                            clear HB
                            have HO_9 := n0_
                            have HO_152002 := n1_
                            have BK140 := n2_
                            have BK141 := n3_
                            have BK151 := n4_
                            have HB := n5_
                            clear n0_ n1_ n2_ n3_ n4_ n5_
                            (try clear hb)
                            (try clear hb2)
                            (try clear hk)
                            (try clear hi)
                            refine hK.out _ _ ⟨(blk_cell BK151.out 0).trans rfl, (blk_cell BK151.out 1).trans rfl, (blk_cell BK151.out 2).trans rfl, (blk_cell BK140.out 0).trans rfl, (blk_cell BK140.out 1).trans rfl, (blk_cell BK140.out 2).trans rfl, (blk_cell BK140.out 3).trans rfl, (blk_cell BK140.out 4).trans rfl, (blk_cell BK140.out 5).trans rfl, (blk_cell BK140.out 6).trans rfl, (blk_cell BK140.out 7).trans rfl⟩ (fun hHeld => ?_)
                            clear hK K
                            refine norm_ (a' := ?_) ?_ ?_
                            rotate_left
                            · show Act.put _ (some 52) _ = _
                              simp only [Act.put, List.setIfInBounds_toArray, List.set_cons_zero, List.set_cons_succ, i64_w, i32_w]
                              rfl
                            refine pure_ (i := 10) (N := some 42) (v := ?_) (a' := ?_) #[true, true, true, true, true, true, true, true, true, true, true, false, false, false, false, false] rfl rfl (any_of HT_.out (by kernel_rfl)) (fun _ _ _ h => h) (Or.inl ⟨by rfl, ?_⟩) ?_ ?_
                            rotate_left
                            · intro w'
                              go_simp
                              with_reducible rfl
                            rotate_left
                            · simp only [Act.put, List.setIfInBounds_toArray, List.set_cons_zero, List.set_cons_succ, i64_w, i32_w]
                              rfl
                            refine pure_ (i := 11) (N := some 53) (v := ?_) (a' := ?_) #[true, true, true, true, true, true, true, true, true, true, true, true, false, false, false, false] rfl rfl (any_of HT_.out (by kernel_rfl)) (fun _ _ _ h => h) (Or.inl ⟨by rfl, ?_⟩) ?_ ?_
                            rotate_left
                            · intro w'
                              go_simp
                              with_reducible rfl
                            rotate_left
                            · simp only [Act.put, List.setIfInBounds_toArray, List.set_cons_zero, List.set_cons_succ, i64_w, i32_w]
                              rfl
                            refine pure_ (i := 12) (N := some 54) (v := ?_) (a' := ?_) #[true, true, true, true, true, true, true, true, true, true, true, true, true, false, false, false] rfl rfl (any_of HT_.out (by kernel_rfl)) (fun _ _ _ h => h) (Or.inl ⟨by rfl, ?_⟩) ?_ ?_
                            rotate_left
                            · intro w'
                              go_simp
                              with_reducible rfl
                            rotate_left
                            · simp only [Act.put, List.setIfInBounds_toArray, List.set_cons_zero, List.set_cons_succ, i64_w, i32_w]
                              rfl
                            refine one_ (i := 13) (N := some 12) #[true, true, true, true, true, true, true, true, true, true, true, true, true, true, false, false] rfl rfl (one_of HT_.out (by kernel_rfl)) (by decide) (fun K hK => ?_)
                            refine box_step ?hg (N := 12) ?hd (cs := #[.int .i64 0, .int .i64 0, .int .i64 0, .int .i64 0, .int .i64 0, .int .i64 0, .int .i64 0, .int .i64 0]) (t := 33) ?hr ?_; (case hd => rfl); (case hg => rfl); (case hr => first | (go_simp; done) | (go_simp; rfl))
                            intro gb164 hg w61 hbox hb
                            have n0_ := Aside0.mk (Kd.R_below (by (with_reducible repeat (first | apply Kd.R_alloc | apply Kd.R_drewN | apply Kd.R_drew)); exact HO_9.out) hb)
                            have n1_ := Aside0.mk (Kd.R_below (by (with_reducible repeat (first | apply Kd.R_alloc | apply Kd.R_drewN | apply Kd.R_drew)); exact HO_152002.out) hb)
                            have n2_ := Aside0.mk (blk_below (g := gb140) (o := .cells #[.int .i64 x141000_2, .int .i64 x141001_2, .int .i64 x141002_2, .int .i64 x141003_2, .int .i64 x141004_2, .int .i64 x141005_2, .int .i64 x141006_2, .int .i64 x141007_2] 33 (0, 0)) (by (with_reducible repeat (first | refine blk_drewN ?_ _ | refine blk_drew ?_ | refine blk_alloc ?_ _)); exact BK140.out) hb)
                            have n3_ := Aside0.mk (blk_below (g := gb141) (o := .cells #[.int .i64 x142000_2, .int .i64 x142001_2, .int .i64 x142002_2, .int .i64 x142003_2, .int .i64 x142004_2, .int .i64 x142005_2, .int .i64 x142006_2, .int .i64 x142007_2] 33 (0, 0)) (by (with_reducible repeat (first | refine blk_drewN ?_ _ | refine blk_drew ?_ | refine blk_alloc ?_ _)); exact BK141.out) hb)
                            have n4_ := Aside0.mk (blk_below (g := gb151) (o := .cells #[.int .i64 t142, .int .i64 t143, .slice Ao15 t144.length co15] 44 (0, 0)) (by (with_reducible repeat (first | refine blk_drewN ?_ _ | refine blk_drew ?_ | refine blk_alloc ?_ _)); exact BK151.out) hb)
                            have n5_ := Aside0.mk (below_step (by repeat (first | (with_reducible first | exact HB.out | apply below_alloc | apply pw_below_drewN | apply below_drew1 | refine below_set ?_ GE140.out | refine below_set ?_ GE141.out | refine below_set ?_ GE151.out) | exact HB.out)) hb)
                            have n6_ := Aside0.mk (hbox)
                            have n7_ := Aside0.mk ((by rw [hg]; exact (below_size (by repeat (first | (with_reducible first | exact HB.out | apply below_alloc | apply pw_below_drewN | apply below_drew1 | refine below_set ?_ GE140.out | refine below_set ?_ GE141.out | refine below_set ?_ GE151.out) | exact HB.out))) : w.heap.size ≤ gb164))
                            have n8_ := Aside0.mk ((by rw [hg]; exact (below_size (by repeat (first | (with_reducible first | exact HB.out | apply below_alloc | apply pw_below_drewN | apply below_drew1 | refine below_set ?_ GE140.out | refine below_set ?_ GE141.out | refine below_set ?_ GE151.out) | exact HB.out))) : w.heap.size ≤ gb164))
                            have n9_ := Aside0.mk ((by rw [hg]; exact Nat.ne_of_lt (blk_lt (g := gb140) (o := .cells #[.int .i64 x141000_2, .int .i64 x141001_2, .int .i64 x141002_2, .int .i64 x141003_2, .int .i64 x141004_2, .int .i64 x141005_2, .int .i64 x141006_2, .int .i64 x141007_2] 33 (0, 0)) (by (with_reducible repeat (first | refine blk_drewN ?_ _ | refine blk_drew ?_ | refine blk_alloc ?_ _)); exact BK140.out)) : gb140 ≠ gb164))
                            have n10_ := Aside0.mk ((by rw [hg]; exact Nat.ne_of_gt (blk_lt (g := gb140) (o := .cells #[.int .i64 x141000_2, .int .i64 x141001_2, .int .i64 x141002_2, .int .i64 x141003_2, .int .i64 x141004_2, .int .i64 x141005_2, .int .i64 x141006_2, .int .i64 x141007_2] 33 (0, 0)) (by (with_reducible repeat (first | refine blk_drewN ?_ _ | refine blk_drew ?_ | refine blk_alloc ?_ _)); exact BK140.out)) : gb164 ≠ gb140))
                            have n11_ := Aside0.mk ((by rw [hg]; exact Nat.ne_of_lt (blk_lt (g := gb141) (o := .cells #[.int .i64 x142000_2, .int .i64 x142001_2, .int .i64 x142002_2, .int .i64 x142003_2, .int .i64 x142004_2, .int .i64 x142005_2, .int .i64 x142006_2, .int .i64 x142007_2] 33 (0, 0)) (by (with_reducible repeat (first | refine blk_drewN ?_ _ | refine blk_drew ?_ | refine blk_alloc ?_ _)); exact BK141.out)) : gb141 ≠ gb164))
                            have n12_ := Aside0.mk ((by rw [hg]; exact Nat.ne_of_gt (blk_lt (g := gb141) (o := .cells #[.int .i64 x142000_2, .int .i64 x142001_2, .int .i64 x142002_2, .int .i64 x142003_2, .int .i64 x142004_2, .int .i64 x142005_2, .int .i64 x142006_2, .int .i64 x142007_2] 33 (0, 0)) (by (with_reducible repeat (first | refine blk_drewN ?_ _ | refine blk_drew ?_ | refine blk_alloc ?_ _)); exact BK141.out)) : gb164 ≠ gb141))
                            have n13_ := Aside0.mk ((by rw [hg]; exact Nat.ne_of_lt (blk_lt (g := gb151) (o := .cells #[.int .i64 t142, .int .i64 t143, .slice Ao15 t144.length co15] 44 (0, 0)) (by (with_reducible repeat (first | refine blk_drewN ?_ _ | refine blk_drew ?_ | refine blk_alloc ?_ _)); exact BK151.out)) : gb151 ≠ gb164))
                            have n14_ := Aside0.mk ((by rw [hg]; exact Nat.ne_of_gt (blk_lt (g := gb151) (o := .cells #[.int .i64 t142, .int .i64 t143, .slice Ao15 t144.length co15] 44 (0, 0)) (by (with_reducible repeat (first | refine blk_drewN ?_ _ | refine blk_drew ?_ | refine blk_alloc ?_ _)); exact BK151.out)) : gb164 ≠ gb151))
                            clear HO_9
                            clear HO_152002
                            clear BK140
                            clear BK141
                            clear BK151
                            clear HB
                            have HO_9 := n0_
                            have HO_152002 := n1_
                            have BK140 := n2_
                            have BK141 := n3_
                            have BK151 := n4_
                            have HB := n5_
                            have BK164 := n6_
                            have GW164 := n7_
                            have GE164 := n8_
                            have NB140_164 := n9_
                            have NB164_140 := n10_
                            have NB141_164 := n11_
                            have NB164_141 := n12_
                            have NB151_164 := n13_
                            have NB164_151 := n14_
                            clear n0_ n1_ n2_ n3_ n4_ n5_ n6_ n7_ n8_ n9_ n10_ n11_ n12_ n13_ n14_
                            clear hb hbox hg
                            refine hK.out _ _ ⟨(blk_cell BK151.out 0).trans rfl, (blk_cell BK151.out 1).trans rfl, (blk_cell BK151.out 2).trans rfl, (blk_cell BK140.out 0).trans rfl, (blk_cell BK140.out 1).trans rfl, (blk_cell BK140.out 2).trans rfl, (blk_cell BK140.out 3).trans rfl, (blk_cell BK140.out 4).trans rfl, (blk_cell BK140.out 5).trans rfl, (blk_cell BK140.out 6).trans rfl, (blk_cell BK140.out 7).trans rfl⟩ (fun hHeld => ?_)
                            clear hK K
                            refine norm_ (a' := ?_) ?_ ?_
                            rotate_left
                            · show Act.put _ (some 12) _ = _
                              simp only [Act.put, List.setIfInBounds_toArray, List.set_cons_zero, List.set_cons_succ, i64_w, i32_w]
                              rfl
                            exact norm_ (by simp only [putAll, Act.put, List.setIfInBounds_toArray, List.set_cons_zero, List.set_cons_succ]) (hCont (gb164) _ ⟨hHeld, (by (with_reducible repeat (first | apply Kd.R_alloc | apply Kd.R_drewN | apply Kd.R_drew)); exact HO_152002.out), (by (with_reducible repeat (first | apply Kd.R_alloc | apply Kd.R_drewN | apply Kd.R_drew)); exact HO_9.out), (by (with_reducible repeat (first | refine blk_drewN ?_ _ | refine blk_drew ?_ | refine blk_alloc ?_ _)); exact BK140.out), (by (with_reducible repeat (first | refine blk_drewN ?_ _ | refine blk_drew ?_ | refine blk_alloc ?_ _)); exact BK141.out), (by (with_reducible repeat (first | refine blk_drewN ?_ _ | refine blk_drew ?_ | refine blk_alloc ?_ _)); exact BK151.out), (by (with_reducible repeat (first | refine blk_drewN ?_ _ | refine blk_drew ?_ | refine blk_alloc ?_ _)); exact BK164.out), GW164.out, GE164.out, NB140_164.out, NB164_140.out, NB141_164.out, NB164_141.out, NB151_164.out, NB164_151.out, (by repeat (first | (with_reducible first | exact HB.out | apply below_alloc | apply pw_below_drewN | apply below_drew1 | refine below_set ?_ GE140.out | refine below_set ?_ GE141.out | refine below_set ?_ GE151.out | refine below_set ?_ GE164.out) | exact HB.out))⟩)
                          · skip
                            refine box_step ?hg (N := 12) ?hd (cs := #[.int .i64 0, .int .i64 0, .int .i64 0, .int .i64 0, .int .i64 0, .int .i64 0, .int .i64 0, .int .i64 0]) (t := 33) ?hr ?_; (case hd => rfl); (case hg => rfl); (case hr => first | (go_simp; done) | (go_simp; rfl))
                            intro gb164 hg w60 hbox hb
                            have n0_ := Aside0.mk (Kd.R_below (by (with_reducible repeat (first | apply Kd.R_alloc | apply Kd.R_drewN | apply Kd.R_drew)); exact HO_9.out) hb)
                            have n1_ := Aside0.mk (Kd.R_below (by (with_reducible repeat (first | apply Kd.R_alloc | apply Kd.R_drewN | apply Kd.R_drew)); exact HO_152002.out) hb)
                            have n2_ := Aside0.mk (blk_below (g := gb140) (o := .cells #[.int .i64 x141000_2, .int .i64 x141001_2, .int .i64 x141002_2, .int .i64 x141003_2, .int .i64 x141004_2, .int .i64 x141005_2, .int .i64 x141006_2, .int .i64 x141007_2] 33 (0, 0)) (by (with_reducible repeat (first | refine blk_drewN ?_ _ | refine blk_drew ?_ | refine blk_alloc ?_ _)); exact BK140.out) hb)
                            have n3_ := Aside0.mk (blk_below (g := gb141) (o := .cells #[.int .i64 x142000_2, .int .i64 x142001_2, .int .i64 x142002_2, .int .i64 x142003_2, .int .i64 x142004_2, .int .i64 x142005_2, .int .i64 x142006_2, .int .i64 x142007_2] 33 (0, 0)) (by (with_reducible repeat (first | refine blk_drewN ?_ _ | refine blk_drew ?_ | refine blk_alloc ?_ _)); exact BK141.out) hb)
                            have n4_ := Aside0.mk (blk_below (g := gb151) (o := .cells #[.int .i64 t142, .int .i64 t143, .slice Ao15 t144.length co15] 44 (0, 0)) (by (with_reducible repeat (first | refine blk_drewN ?_ _ | refine blk_drew ?_ | refine blk_alloc ?_ _)); exact BK151.out) hb)
                            have n5_ := Aside0.mk (below_step (by repeat (first | (with_reducible first | exact HB.out | apply below_alloc | apply pw_below_drewN | apply below_drew1 | refine below_set ?_ GE140.out | refine below_set ?_ GE141.out | refine below_set ?_ GE151.out) | exact HB.out)) hb)
                            have n6_ := Aside0.mk (hbox)
                            have n7_ := Aside0.mk ((by rw [hg]; exact (below_size (by repeat (first | (with_reducible first | exact HB.out | apply below_alloc | apply pw_below_drewN | apply below_drew1 | refine below_set ?_ GE140.out | refine below_set ?_ GE141.out | refine below_set ?_ GE151.out) | exact HB.out))) : w.heap.size ≤ gb164))
                            have n8_ := Aside0.mk ((by rw [hg]; exact (below_size (by repeat (first | (with_reducible first | exact HB.out | apply below_alloc | apply pw_below_drewN | apply below_drew1 | refine below_set ?_ GE140.out | refine below_set ?_ GE141.out | refine below_set ?_ GE151.out) | exact HB.out))) : w.heap.size ≤ gb164))
                            have n9_ := Aside0.mk ((by rw [hg]; exact Nat.ne_of_lt (blk_lt (g := gb140) (o := .cells #[.int .i64 x141000_2, .int .i64 x141001_2, .int .i64 x141002_2, .int .i64 x141003_2, .int .i64 x141004_2, .int .i64 x141005_2, .int .i64 x141006_2, .int .i64 x141007_2] 33 (0, 0)) (by (with_reducible repeat (first | refine blk_drewN ?_ _ | refine blk_drew ?_ | refine blk_alloc ?_ _)); exact BK140.out)) : gb140 ≠ gb164))
                            have n10_ := Aside0.mk ((by rw [hg]; exact Nat.ne_of_gt (blk_lt (g := gb140) (o := .cells #[.int .i64 x141000_2, .int .i64 x141001_2, .int .i64 x141002_2, .int .i64 x141003_2, .int .i64 x141004_2, .int .i64 x141005_2, .int .i64 x141006_2, .int .i64 x141007_2] 33 (0, 0)) (by (with_reducible repeat (first | refine blk_drewN ?_ _ | refine blk_drew ?_ | refine blk_alloc ?_ _)); exact BK140.out)) : gb164 ≠ gb140))
                            have n11_ := Aside0.mk ((by rw [hg]; exact Nat.ne_of_lt (blk_lt (g := gb141) (o := .cells #[.int .i64 x142000_2, .int .i64 x142001_2, .int .i64 x142002_2, .int .i64 x142003_2, .int .i64 x142004_2, .int .i64 x142005_2, .int .i64 x142006_2, .int .i64 x142007_2] 33 (0, 0)) (by (with_reducible repeat (first | refine blk_drewN ?_ _ | refine blk_drew ?_ | refine blk_alloc ?_ _)); exact BK141.out)) : gb141 ≠ gb164))
                            have n12_ := Aside0.mk ((by rw [hg]; exact Nat.ne_of_gt (blk_lt (g := gb141) (o := .cells #[.int .i64 x142000_2, .int .i64 x142001_2, .int .i64 x142002_2, .int .i64 x142003_2, .int .i64 x142004_2, .int .i64 x142005_2, .int .i64 x142006_2, .int .i64 x142007_2] 33 (0, 0)) (by (with_reducible repeat (first | refine blk_drewN ?_ _ | refine blk_drew ?_ | refine blk_alloc ?_ _)); exact BK141.out)) : gb164 ≠ gb141))
                            have n13_ := Aside0.mk ((by rw [hg]; exact Nat.ne_of_lt (blk_lt (g := gb151) (o := .cells #[.int .i64 t142, .int .i64 t143, .slice Ao15 t144.length co15] 44 (0, 0)) (by (with_reducible repeat (first | refine blk_drewN ?_ _ | refine blk_drew ?_ | refine blk_alloc ?_ _)); exact BK151.out)) : gb151 ≠ gb164))
                            have n14_ := Aside0.mk ((by rw [hg]; exact Nat.ne_of_gt (blk_lt (g := gb151) (o := .cells #[.int .i64 t142, .int .i64 t143, .slice Ao15 t144.length co15] 44 (0, 0)) (by (with_reducible repeat (first | refine blk_drewN ?_ _ | refine blk_drew ?_ | refine blk_alloc ?_ _)); exact BK151.out)) : gb164 ≠ gb151))
                            clear HO_9
                            clear HO_152002
                            clear BK140
                            clear BK141
                            clear BK151
                            clear HB
                            have HO_9 := n0_
                            have HO_152002 := n1_
                            have BK140 := n2_
                            have BK141 := n3_
                            have BK151 := n4_
                            have HB := n5_
                            have BK164 := n6_
                            have GW164 := n7_
                            have GE164 := n8_
                            have NB140_164 := n9_
                            have NB164_140 := n10_
                            have NB141_164 := n11_
                            have NB164_141 := n12_
                            have NB151_164 := n13_
                            have NB164_151 := n14_
                            clear n0_ n1_ n2_ n3_ n4_ n5_ n6_ n7_ n8_ n9_ n10_ n11_ n12_ n13_ n14_
                            clear hb hbox hg
                            refine hK.out _ _ ⟨(blk_cell BK151.out 0).trans rfl, (blk_cell BK151.out 1).trans rfl, (blk_cell BK151.out 2).trans rfl, (blk_cell BK140.out 0).trans rfl, (blk_cell BK140.out 1).trans rfl, (blk_cell BK140.out 2).trans rfl, (blk_cell BK140.out 3).trans rfl, (blk_cell BK140.out 4).trans rfl, (blk_cell BK140.out 5).trans rfl, (blk_cell BK140.out 6).trans rfl, (blk_cell BK140.out 7).trans rfl⟩ (fun hHeld => ?_)
                            clear hK K
                            refine norm_ (a' := ?_) ?_ ?_
                            rotate_left
                            · show Act.put _ (some 12) _ = _
                              simp only [Act.put, List.setIfInBounds_toArray, List.set_cons_zero, List.set_cons_succ, i64_w, i32_w]
                              rfl
                            refine one_ (i := 9) (N := some 52) #[true, true, true, true, true, true, true, true, true, true, false, false, false, true, false, false] rfl rfl (one_of HT_.out (by kernel_rfl)) (by decide) (fun K hK => ?_)
                            refine goes_ Tryd.func29 (by kernel_rfl) rfl #[.agg #[.int .i64 t142, .int .i64 t143, .slice Ao15 t144.length co15], .slice Ao58 t147.length co58, .agg #[.int .i64 x141000_2, .int .i64 x141001_2, .int .i64 x141002_2, .int .i64 x141003_2, .int .i64 x141004_2, .int .i64 x141005_2, .int .i64 x141006_2, .int .i64 x141007_2], .int .i64 t154] (by rfl) rfl rfl (by (try simp only [List.map_toArray, List.map_cons, List.map_nil]); first | done | rfl | (simp only [List.length_drop, List.length_take]; rfl)) ?_
                            with_reducible refine (spec_prRoll.calls t142 t143 _ _ t144 _ _ t147 x141000_2 x141001_2 x141002_2 x141003_2 x141004_2 x141005_2 x141006_2 x141007_2 t154 t155 t156 t157 t158 t159 t160 t161 t162 false _ ?side1 ?side2 ?side3 ?side4 A36.out).mono ?_
                            (case side1 => repeat (first | exact (Kd.R_reads' HO_152002.out).2.2 | (with_reducible refine Kd.C_alloc ?_ _) | (with_reducible refine Kd.C_drewN ?_ _) | (with_reducible refine Kd.C_drew ?_)))
                            (case side2 => exact (Kd.R_reads' HO_152002.out).2.1)
                            (case side3 => repeat (first | exact (Kd.R_reads' HO_9.out).2.2 | (with_reducible refine Kd.C_alloc ?_ _) | (with_reducible refine Kd.C_drewN ?_ _) | (with_reducible refine Kd.C_drew ?_)))
                            (case side4 => exact (Kd.R_reads' HO_9.out).2.1)
                            rintro e w61 ⟨rfl, hb⟩
                            refine ⟨_, rfl, ?_⟩
                            have n0_ := Aside0.mk (Kd.R_below (by (with_reducible repeat (first | apply Kd.R_alloc | apply Kd.R_drewN | apply Kd.R_drew)); exact HO_9.out) hb)
                            have n1_ := Aside0.mk (Kd.R_below (by (with_reducible repeat (first | apply Kd.R_alloc | apply Kd.R_drewN | apply Kd.R_drew)); exact HO_152002.out) hb)
                            have n2_ := Aside0.mk (blk_below (g := gb140) (o := .cells #[.int .i64 x141000_2, .int .i64 x141001_2, .int .i64 x141002_2, .int .i64 x141003_2, .int .i64 x141004_2, .int .i64 x141005_2, .int .i64 x141006_2, .int .i64 x141007_2] 33 (0, 0)) (by (with_reducible repeat (first | refine blk_drewN ?_ _ | refine blk_drew ?_ | refine blk_alloc ?_ _)); exact BK140.out) hb)
                            have n3_ := Aside0.mk (blk_below (g := gb141) (o := .cells #[.int .i64 x142000_2, .int .i64 x142001_2, .int .i64 x142002_2, .int .i64 x142003_2, .int .i64 x142004_2, .int .i64 x142005_2, .int .i64 x142006_2, .int .i64 x142007_2] 33 (0, 0)) (by (with_reducible repeat (first | refine blk_drewN ?_ _ | refine blk_drew ?_ | refine blk_alloc ?_ _)); exact BK141.out) hb)
                            have n4_ := Aside0.mk (blk_below (g := gb151) (o := .cells #[.int .i64 t142, .int .i64 t143, .slice Ao15 t144.length co15] 44 (0, 0)) (by (with_reducible repeat (first | refine blk_drewN ?_ _ | refine blk_drew ?_ | refine blk_alloc ?_ _)); exact BK151.out) hb)
                            have n5_ := Aside0.mk (blk_below (g := gb164) (o := .cells #[.int .i64 0, .int .i64 0, .int .i64 0, .int .i64 0, .int .i64 0, .int .i64 0, .int .i64 0, .int .i64 0] 33 (0, 0)) (by (with_reducible repeat (first | refine blk_drewN ?_ _ | refine blk_drew ?_ | refine blk_alloc ?_ _)); exact BK164.out) hb)
                            have n6_ := Aside0.mk (below_step (by repeat (first | (with_reducible first | exact HB.out | apply below_alloc | apply pw_below_drewN | apply below_drew1 | refine below_set ?_ GE140.out | refine below_set ?_ GE141.out | refine below_set ?_ GE151.out | refine below_set ?_ GE164.out) | exact HB.out)) hb)
                            clear HO_9
                            clear HO_152002
                            clear BK140
                            clear BK141
                            clear BK151
                            clear BK164
                            clear HB
                            have HO_9 := n0_
                            have HO_152002 := n1_
                            have BK140 := n2_
                            have BK141 := n3_
                            have BK151 := n4_
                            have BK164 := n5_
                            have HB := n6_
                            clear n0_ n1_ n2_ n3_ n4_ n5_ n6_
                            (try clear hb)
                            (try clear hb2)
                            (try clear hk)
                            (try clear hi)
                            refine hK.out _ _ ⟨(blk_cell BK151.out 0).trans rfl, (blk_cell BK151.out 1).trans rfl, (blk_cell BK151.out 2).trans rfl, (blk_cell BK140.out 0).trans rfl, (blk_cell BK140.out 1).trans rfl, (blk_cell BK140.out 2).trans rfl, (blk_cell BK140.out 3).trans rfl, (blk_cell BK140.out 4).trans rfl, (blk_cell BK140.out 5).trans rfl, (blk_cell BK140.out 6).trans rfl, (blk_cell BK140.out 7).trans rfl⟩ (fun hHeld => ?_)
                            clear hK K
                            refine norm_ (a' := ?_) ?_ ?_
                            rotate_left
                            · show Act.put _ (some 52) _ = _
                              simp only [Act.put, List.setIfInBounds_toArray, List.set_cons_zero, List.set_cons_succ, i64_w, i32_w]
                              rfl
                            refine pure_ (i := 10) (N := some 42) (v := ?_) (a' := ?_) #[true, true, true, true, true, true, true, true, true, true, true, false, false, true, false, false] rfl rfl (any_of HT_.out (by kernel_rfl)) (fun _ _ _ h => h) (Or.inl ⟨by rfl, ?_⟩) ?_ ?_
                            rotate_left
                            · intro w'
                              go_simp
                              with_reducible rfl
                            rotate_left
                            · simp only [Act.put, List.setIfInBounds_toArray, List.set_cons_zero, List.set_cons_succ, i64_w, i32_w]
                              rfl
                            refine pure_ (i := 11) (N := some 53) (v := ?_) (a' := ?_) #[true, true, true, true, true, true, true, true, true, true, true, true, false, true, false, false] rfl rfl (any_of HT_.out (by kernel_rfl)) (fun _ _ _ h => h) (Or.inl ⟨by rfl, ?_⟩) ?_ ?_
                            rotate_left
                            · intro w'
                              go_simp
                              with_reducible rfl
                            rotate_left
                            · simp only [Act.put, List.setIfInBounds_toArray, List.set_cons_zero, List.set_cons_succ, i64_w, i32_w]
                              rfl
                            refine pure_ (i := 12) (N := some 54) (v := ?_) (a' := ?_) #[true, true, true, true, true, true, true, true, true, true, true, true, true, true, false, false] rfl rfl (any_of HT_.out (by kernel_rfl)) (fun _ _ _ h => h) (Or.inl ⟨by rfl, ?_⟩) ?_ ?_
                            rotate_left
                            · intro w'
                              go_simp
                              with_reducible rfl
                            rotate_left
                            · simp only [Act.put, List.setIfInBounds_toArray, List.set_cons_zero, List.set_cons_succ, i64_w, i32_w]
                              rfl
                            exact norm_ (by simp only [putAll, Act.put, List.setIfInBounds_toArray, List.set_cons_zero, List.set_cons_succ]) (hCont (gb164) _ ⟨hHeld, (by (with_reducible repeat (first | apply Kd.R_alloc | apply Kd.R_drewN | apply Kd.R_drew)); exact HO_152002.out), (by (with_reducible repeat (first | apply Kd.R_alloc | apply Kd.R_drewN | apply Kd.R_drew)); exact HO_9.out), (by (with_reducible repeat (first | refine blk_drewN ?_ _ | refine blk_drew ?_ | refine blk_alloc ?_ _)); exact BK140.out), (by (with_reducible repeat (first | refine blk_drewN ?_ _ | refine blk_drew ?_ | refine blk_alloc ?_ _)); exact BK141.out), (by (with_reducible repeat (first | refine blk_drewN ?_ _ | refine blk_drew ?_ | refine blk_alloc ?_ _)); exact BK151.out), (by (with_reducible repeat (first | refine blk_drewN ?_ _ | refine blk_drew ?_ | refine blk_alloc ?_ _)); exact BK164.out), GW164.out, GE164.out, NB140_164.out, NB164_140.out, NB141_164.out, NB164_141.out, NB151_164.out, NB164_151.out, (by repeat (first | (with_reducible first | exact HB.out | apply below_alloc | apply pw_below_drewN | apply below_drew1 | refine below_set ?_ GE140.out | refine below_set ?_ GE141.out | refine below_set ?_ GE151.out | refine below_set ?_ GE164.out) | exact HB.out))⟩)
                        · skip
                          refine box_step ?hg (N := 12) ?hd (cs := #[.int .i64 0, .int .i64 0, .int .i64 0, .int .i64 0, .int .i64 0, .int .i64 0, .int .i64 0, .int .i64 0]) (t := 33) ?hr ?_; (case hd => rfl); (case hg => rfl); (case hr => first | (go_simp; done) | (go_simp; rfl))
                          intro gb164 hg w60 hbox hb
                          have n0_ := Aside0.mk (Kd.R_below (by (with_reducible repeat (first | apply Kd.R_alloc | apply Kd.R_drewN | apply Kd.R_drew)); exact HO_9.out) hb)
                          have n1_ := Aside0.mk (Kd.R_below (by (with_reducible repeat (first | apply Kd.R_alloc | apply Kd.R_drewN | apply Kd.R_drew)); exact HO_152002.out) hb)
                          have n2_ := Aside0.mk (blk_below (g := gb140) (o := .cells #[.int .i64 x141000_2, .int .i64 x141001_2, .int .i64 x141002_2, .int .i64 x141003_2, .int .i64 x141004_2, .int .i64 x141005_2, .int .i64 x141006_2, .int .i64 x141007_2] 33 (0, 0)) (by (with_reducible repeat (first | refine blk_drewN ?_ _ | refine blk_drew ?_ | refine blk_alloc ?_ _)); exact BK140.out) hb)
                          have n3_ := Aside0.mk (blk_below (g := gb141) (o := .cells #[.int .i64 x142000_2, .int .i64 x142001_2, .int .i64 x142002_2, .int .i64 x142003_2, .int .i64 x142004_2, .int .i64 x142005_2, .int .i64 x142006_2, .int .i64 x142007_2] 33 (0, 0)) (by (with_reducible repeat (first | refine blk_drewN ?_ _ | refine blk_drew ?_ | refine blk_alloc ?_ _)); exact BK141.out) hb)
                          have n4_ := Aside0.mk (blk_below (g := gb151) (o := .cells #[.int .i64 t142, .int .i64 t143, .slice Ao15 t144.length co15] 44 (0, 0)) (by (with_reducible repeat (first | refine blk_drewN ?_ _ | refine blk_drew ?_ | refine blk_alloc ?_ _)); exact BK151.out) hb)
                          have n5_ := Aside0.mk (below_step (by repeat (first | (with_reducible first | exact HB.out | apply below_alloc | apply pw_below_drewN | apply below_drew1 | refine below_set ?_ GE140.out | refine below_set ?_ GE141.out | refine below_set ?_ GE151.out) | exact HB.out)) hb)
                          have n6_ := Aside0.mk (hbox)
                          have n7_ := Aside0.mk ((by rw [hg]; exact (below_size (by repeat (first | (with_reducible first | exact HB.out | apply below_alloc | apply pw_below_drewN | apply below_drew1 | refine below_set ?_ GE140.out | refine below_set ?_ GE141.out | refine below_set ?_ GE151.out) | exact HB.out))) : w.heap.size ≤ gb164))
                          have n8_ := Aside0.mk ((by rw [hg]; exact (below_size (by repeat (first | (with_reducible first | exact HB.out | apply below_alloc | apply pw_below_drewN | apply below_drew1 | refine below_set ?_ GE140.out | refine below_set ?_ GE141.out | refine below_set ?_ GE151.out) | exact HB.out))) : w.heap.size ≤ gb164))
                          have n9_ := Aside0.mk ((by rw [hg]; exact Nat.ne_of_lt (blk_lt (g := gb140) (o := .cells #[.int .i64 x141000_2, .int .i64 x141001_2, .int .i64 x141002_2, .int .i64 x141003_2, .int .i64 x141004_2, .int .i64 x141005_2, .int .i64 x141006_2, .int .i64 x141007_2] 33 (0, 0)) (by (with_reducible repeat (first | refine blk_drewN ?_ _ | refine blk_drew ?_ | refine blk_alloc ?_ _)); exact BK140.out)) : gb140 ≠ gb164))
                          have n10_ := Aside0.mk ((by rw [hg]; exact Nat.ne_of_gt (blk_lt (g := gb140) (o := .cells #[.int .i64 x141000_2, .int .i64 x141001_2, .int .i64 x141002_2, .int .i64 x141003_2, .int .i64 x141004_2, .int .i64 x141005_2, .int .i64 x141006_2, .int .i64 x141007_2] 33 (0, 0)) (by (with_reducible repeat (first | refine blk_drewN ?_ _ | refine blk_drew ?_ | refine blk_alloc ?_ _)); exact BK140.out)) : gb164 ≠ gb140))
                          have n11_ := Aside0.mk ((by rw [hg]; exact Nat.ne_of_lt (blk_lt (g := gb141) (o := .cells #[.int .i64 x142000_2, .int .i64 x142001_2, .int .i64 x142002_2, .int .i64 x142003_2, .int .i64 x142004_2, .int .i64 x142005_2, .int .i64 x142006_2, .int .i64 x142007_2] 33 (0, 0)) (by (with_reducible repeat (first | refine blk_drewN ?_ _ | refine blk_drew ?_ | refine blk_alloc ?_ _)); exact BK141.out)) : gb141 ≠ gb164))
                          have n12_ := Aside0.mk ((by rw [hg]; exact Nat.ne_of_gt (blk_lt (g := gb141) (o := .cells #[.int .i64 x142000_2, .int .i64 x142001_2, .int .i64 x142002_2, .int .i64 x142003_2, .int .i64 x142004_2, .int .i64 x142005_2, .int .i64 x142006_2, .int .i64 x142007_2] 33 (0, 0)) (by (with_reducible repeat (first | refine blk_drewN ?_ _ | refine blk_drew ?_ | refine blk_alloc ?_ _)); exact BK141.out)) : gb164 ≠ gb141))
                          have n13_ := Aside0.mk ((by rw [hg]; exact Nat.ne_of_lt (blk_lt (g := gb151) (o := .cells #[.int .i64 t142, .int .i64 t143, .slice Ao15 t144.length co15] 44 (0, 0)) (by (with_reducible repeat (first | refine blk_drewN ?_ _ | refine blk_drew ?_ | refine blk_alloc ?_ _)); exact BK151.out)) : gb151 ≠ gb164))
                          have n14_ := Aside0.mk ((by rw [hg]; exact Nat.ne_of_gt (blk_lt (g := gb151) (o := .cells #[.int .i64 t142, .int .i64 t143, .slice Ao15 t144.length co15] 44 (0, 0)) (by (with_reducible repeat (first | refine blk_drewN ?_ _ | refine blk_drew ?_ | refine blk_alloc ?_ _)); exact BK151.out)) : gb164 ≠ gb151))
                          clear HO_9
                          clear HO_152002
                          clear BK140
                          clear BK141
                          clear BK151
                          clear HB
                          have HO_9 := n0_
                          have HO_152002 := n1_
                          have BK140 := n2_
                          have BK141 := n3_
                          have BK151 := n4_
                          have HB := n5_
                          have BK164 := n6_
                          have GW164 := n7_
                          have GE164 := n8_
                          have NB140_164 := n9_
                          have NB164_140 := n10_
                          have NB141_164 := n11_
                          have NB164_141 := n12_
                          have NB151_164 := n13_
                          have NB164_151 := n14_
                          clear n0_ n1_ n2_ n3_ n4_ n5_ n6_ n7_ n8_ n9_ n10_ n11_ n12_ n13_ n14_
                          clear hb hbox hg
                          refine hK.out _ _ ⟨(blk_cell BK151.out 0).trans rfl, (blk_cell BK151.out 1).trans rfl, (blk_cell BK151.out 2).trans rfl, (blk_cell BK140.out 0).trans rfl, (blk_cell BK140.out 1).trans rfl, (blk_cell BK140.out 2).trans rfl, (blk_cell BK140.out 3).trans rfl, (blk_cell BK140.out 4).trans rfl, (blk_cell BK140.out 5).trans rfl, (blk_cell BK140.out 6).trans rfl, (blk_cell BK140.out 7).trans rfl⟩ (fun hHeld => ?_)
                          clear hK K
                          refine norm_ (a' := ?_) ?_ ?_
                          rotate_left
                          · show Act.put _ (some 12) _ = _
                            simp only [Act.put, List.setIfInBounds_toArray, List.set_cons_zero, List.set_cons_succ, i64_w, i32_w]
                            rfl
                          refine one_ (i := 8) (N := some 51) #[true, true, true, true, true, true, true, true, true, false, false, false, false, true, false, false] rfl rfl (one_of HT_.out (by kernel_rfl)) (by decide) (fun K hK => ?_)
                          refine goes_ Tryd.func33 (by kernel_rfl) rfl #[.string (a2.extract (x11_2 : Int).toNat ((wrap64 (x11_2 + 1)) : Int).toNat)] (by rfl) rfl rfl (by (try simp only [List.map_toArray, List.map_cons, List.map_nil]); first | done | rfl | (simp only [List.length_drop, List.length_take]; rfl)) ?_
                          with_reducible refine (spec_diDir.calls k2 (a2.extract (x11_2 : Int).toNat ((wrap64 (x11_2 + 1)) : Int).toNat) t154 _ A35.out).mono ?_
                          rintro e w' ⟨rfl, ⟨nd, rfl⟩⟩
                          refine ⟨_, rfl, ?_⟩
                          refine hK.out _ _ ⟨(blk_cell BK151.out 0).trans rfl, (blk_cell BK151.out 1).trans rfl, (blk_cell BK151.out 2).trans rfl, (blk_cell BK140.out 0).trans rfl, (blk_cell BK140.out 1).trans rfl, (blk_cell BK140.out 2).trans rfl, (blk_cell BK140.out 3).trans rfl, (blk_cell BK140.out 4).trans rfl, (blk_cell BK140.out 5).trans rfl, (blk_cell BK140.out 6).trans rfl, (blk_cell BK140.out 7).trans rfl⟩ (fun hHeld => ?_)
                          clear hK K
                          refine norm_ (a' := ?_) ?_ ?_
                          rotate_left
                          · show Act.put _ (some 51) _ = _
                            simp only [Act.put, List.setIfInBounds_toArray, List.set_cons_zero, List.set_cons_succ, i64_w, i32_w]
                            rfl
                          refine one_ (i := 9) (N := some 52) #[true, true, true, true, true, true, true, true, true, true, false, false, false, true, false, false] rfl rfl (one_of HT_.out (by kernel_rfl)) (by decide) (fun K hK => ?_)
                          refine goes_ Tryd.func29 (by kernel_rfl) rfl #[.agg #[.int .i64 t142, .int .i64 t143, .slice Ao15 t144.length co15], .slice Ao58 t147.length co58, .agg #[.int .i64 x141000_2, .int .i64 x141001_2, .int .i64 x141002_2, .int .i64 x141003_2, .int .i64 x141004_2, .int .i64 x141005_2, .int .i64 x141006_2, .int .i64 x141007_2], .int .i64 t154] (by rfl) rfl rfl (by (try simp only [List.map_toArray, List.map_cons, List.map_nil]); first | done | rfl | (simp only [List.length_drop, List.length_take]; rfl)) ?_
                          with_reducible refine (spec_prRoll.calls t142 t143 _ _ t144 _ _ t147 x141000_2 x141001_2 x141002_2 x141003_2 x141004_2 x141005_2 x141006_2 x141007_2 t154 t155 t156 t157 t158 t159 t160 t161 t162 false _ ?side1 ?side2 ?side3 ?side4 A36.out).mono ?_
                          (case side1 => repeat (first | exact (Kd.R_reads' HO_152002.out).2.2 | (with_reducible refine Kd.C_alloc ?_ _) | (with_reducible refine Kd.C_drewN ?_ _) | (with_reducible refine Kd.C_drew ?_)))
                          (case side2 => exact (Kd.R_reads' HO_152002.out).2.1)
                          (case side3 => repeat (first | exact (Kd.R_reads' HO_9.out).2.2 | (with_reducible refine Kd.C_alloc ?_ _) | (with_reducible refine Kd.C_drewN ?_ _) | (with_reducible refine Kd.C_drew ?_)))
                          (case side4 => exact (Kd.R_reads' HO_9.out).2.1)
                          rintro e w61 ⟨rfl, hb⟩
                          refine ⟨_, rfl, ?_⟩
                          have n0_ := Aside0.mk (Kd.R_below (by (with_reducible repeat (first | apply Kd.R_alloc | apply Kd.R_drewN | apply Kd.R_drew)); exact HO_9.out) hb)
                          have n1_ := Aside0.mk (Kd.R_below (by (with_reducible repeat (first | apply Kd.R_alloc | apply Kd.R_drewN | apply Kd.R_drew)); exact HO_152002.out) hb)
                          have n2_ := Aside0.mk (blk_below (g := gb140) (o := .cells #[.int .i64 x141000_2, .int .i64 x141001_2, .int .i64 x141002_2, .int .i64 x141003_2, .int .i64 x141004_2, .int .i64 x141005_2, .int .i64 x141006_2, .int .i64 x141007_2] 33 (0, 0)) (by (with_reducible repeat (first | refine blk_drewN ?_ _ | refine blk_drew ?_ | refine blk_alloc ?_ _)); exact BK140.out) hb)
                          have n3_ := Aside0.mk (blk_below (g := gb141) (o := .cells #[.int .i64 x142000_2, .int .i64 x142001_2, .int .i64 x142002_2, .int .i64 x142003_2, .int .i64 x142004_2, .int .i64 x142005_2, .int .i64 x142006_2, .int .i64 x142007_2] 33 (0, 0)) (by (with_reducible repeat (first | refine blk_drewN ?_ _ | refine blk_drew ?_ | refine blk_alloc ?_ _)); exact BK141.out) hb)
                          have n4_ := Aside0.mk (blk_below (g := gb151) (o := .cells #[.int .i64 t142, .int .i64 t143, .slice Ao15 t144.length co15] 44 (0, 0)) (by (with_reducible repeat (first | refine blk_drewN ?_ _ | refine blk_drew ?_ | refine blk_alloc ?_ _)); exact BK151.out) hb)
                          have n5_ := Aside0.mk (blk_below (g := gb164) (o := .cells #[.int .i64 0, .int .i64 0, .int .i64 0, .int .i64 0, .int .i64 0, .int .i64 0, .int .i64 0, .int .i64 0] 33 (0, 0)) (by (with_reducible repeat (first | refine blk_drewN ?_ _ | refine blk_drew ?_ | refine blk_alloc ?_ _)); exact BK164.out) hb)
                          have n6_ := Aside0.mk (below_step (by repeat (first | (with_reducible first | exact HB.out | apply below_alloc | apply pw_below_drewN | apply below_drew1 | refine below_set ?_ GE140.out | refine below_set ?_ GE141.out | refine below_set ?_ GE151.out | refine below_set ?_ GE164.out) | exact HB.out)) hb)
                          clear HO_9
                          clear HO_152002
                          clear BK140
                          clear BK141
                          clear BK151
                          clear BK164
                          clear HB
                          have HO_9 := n0_
                          have HO_152002 := n1_
                          have BK140 := n2_
                          have BK141 := n3_
                          have BK151 := n4_
                          have BK164 := n5_
                          have HB := n6_
                          clear n0_ n1_ n2_ n3_ n4_ n5_ n6_
                          (try clear hb)
                          (try clear hb2)
                          (try clear hk)
                          (try clear hi)
                          refine hK.out _ _ ⟨(blk_cell BK151.out 0).trans rfl, (blk_cell BK151.out 1).trans rfl, (blk_cell BK151.out 2).trans rfl, (blk_cell BK140.out 0).trans rfl, (blk_cell BK140.out 1).trans rfl, (blk_cell BK140.out 2).trans rfl, (blk_cell BK140.out 3).trans rfl, (blk_cell BK140.out 4).trans rfl, (blk_cell BK140.out 5).trans rfl, (blk_cell BK140.out 6).trans rfl, (blk_cell BK140.out 7).trans rfl⟩ (fun hHeld => ?_)
                          clear hK K
                          refine norm_ (a' := ?_) ?_ ?_
                          rotate_left
                          · show Act.put _ (some 52) _ = _
                            simp only [Act.put, List.setIfInBounds_toArray, List.set_cons_zero, List.set_cons_succ, i64_w, i32_w]
                            rfl
                          refine pure_ (i := 10) (N := some 42) (v := ?_) (a' := ?_) #[true, true, true, true, true, true, true, true, true, true, true, false, false, true, false, false] rfl rfl (any_of HT_.out (by kernel_rfl)) (fun _ _ _ h => h) (Or.inl ⟨by rfl, ?_⟩) ?_ ?_
                          rotate_left
                          · intro w'
                            go_simp
                            with_reducible rfl
                          rotate_left
                          · simp only [Act.put, List.setIfInBounds_toArray, List.set_cons_zero, List.set_cons_succ, i64_w, i32_w]
                            rfl
                          refine pure_ (i := 11) (N := some 53) (v := ?_) (a' := ?_) #[true, true, true, true, true, true, true, true, true, true, true, true, false, true, false, false] rfl rfl (any_of HT_.out (by kernel_rfl)) (fun _ _ _ h => h) (Or.inl ⟨by rfl, ?_⟩) ?_ ?_
                          rotate_left
                          · intro w'
                            go_simp
                            with_reducible rfl
                          rotate_left
                          · simp only [Act.put, List.setIfInBounds_toArray, List.set_cons_zero, List.set_cons_succ, i64_w, i32_w]
                            rfl
                          refine pure_ (i := 12) (N := some 54) (v := ?_) (a' := ?_) #[true, true, true, true, true, true, true, true, true, true, true, true, true, true, false, false] rfl rfl (any_of HT_.out (by kernel_rfl)) (fun _ _ _ h => h) (Or.inl ⟨by rfl, ?_⟩) ?_ ?_
                          rotate_left
                          · intro w'
                            go_simp
                            with_reducible rfl
                          rotate_left
                          · simp only [Act.put, List.setIfInBounds_toArray, List.set_cons_zero, List.set_cons_succ, i64_w, i32_w]
                            rfl
                          exact norm_ (by simp only [putAll, Act.put, List.setIfInBounds_toArray, List.set_cons_zero, List.set_cons_succ]) (hCont (gb164) _ ⟨hHeld, (by (with_reducible repeat (first | apply Kd.R_alloc | apply Kd.R_drewN | apply Kd.R_drew)); exact HO_152002.out), (by (with_reducible repeat (first | apply Kd.R_alloc | apply Kd.R_drewN | apply Kd.R_drew)); exact HO_9.out), (by (with_reducible repeat (first | refine blk_drewN ?_ _ | refine blk_drew ?_ | refine blk_alloc ?_ _)); exact BK140.out), (by (with_reducible repeat (first | refine blk_drewN ?_ _ | refine blk_drew ?_ | refine blk_alloc ?_ _)); exact BK141.out), (by (with_reducible repeat (first | refine blk_drewN ?_ _ | refine blk_drew ?_ | refine blk_alloc ?_ _)); exact BK151.out), (by (with_reducible repeat (first | refine blk_drewN ?_ _ | refine blk_drew ?_ | refine blk_alloc ?_ _)); exact BK164.out), GW164.out, GE164.out, NB140_164.out, NB164_140.out, NB141_164.out, NB164_141.out, NB151_164.out, NB164_151.out, (by repeat (first | (with_reducible first | exact HB.out | apply below_alloc | apply pw_below_drewN | apply below_drew1 | refine below_set ?_ GE140.out | refine below_set ?_ GE141.out | refine below_set ?_ GE151.out | refine below_set ?_ GE164.out) | exact HB.out))⟩)
                      rintro gb164 w62 ⟨hS_, h0_, h1_, h2_, h3_, h4_, h5_, h6_, h7_, h8_, h9_, h10_, h11_, h12_, h13_, h14_⟩
                      have n0_ : Aside0 (Kd.R (Kd.int .u8) 5 w62 w.heap.size (fun k_ => some k_ ≠ (.slice Ao58 t147.length co58 : Value).ownBlock) (.slice Ao15 t144.length co15) t144) := ⟨h0_⟩
                      have n1_ : Aside0 (Kd.R (Kd.int .u8) 5 w62 w.heap.size (fun k_ => some k_ ≠ (.slice Ao15 t144.length co15 : Value).ownBlock) (.slice Ao58 t147.length co58) t147) := ⟨h1_⟩
                      have n2_ : Aside0 (w62.heap[gb140]? = some (.cells #[.int .i64 x141000_2, .int .i64 x141001_2, .int .i64 x141002_2, .int .i64 x141003_2, .int .i64 x141004_2, .int .i64 x141005_2, .int .i64 x141006_2, .int .i64 x141007_2] 33 (0, 0))) := ⟨h2_⟩
                      have n3_ : Aside0 (w62.heap[gb141]? = some (.cells #[.int .i64 x142000_2, .int .i64 x142001_2, .int .i64 x142002_2, .int .i64 x142003_2, .int .i64 x142004_2, .int .i64 x142005_2, .int .i64 x142006_2, .int .i64 x142007_2] 33 (0, 0))) := ⟨h3_⟩
                      have n4_ : Aside0 (w62.heap[gb151]? = some (.cells #[.int .i64 t142, .int .i64 t143, .slice Ao15 t144.length co15] 44 (0, 0))) := ⟨h4_⟩
                      have n5_ : Aside0 (w62.heap[gb164]? = some (.cells #[.int .i64 0, .int .i64 0, .int .i64 0, .int .i64 0, .int .i64 0, .int .i64 0, .int .i64 0, .int .i64 0] 33 (0, 0))) := ⟨h5_⟩
                      have n6_ : Aside0 (w.heap.size ≤ gb164) := ⟨h6_⟩
                      have n7_ : Aside0 (w.heap.size ≤ gb164) := ⟨h7_⟩
                      have n8_ : Aside0 (gb140 ≠ gb164) := ⟨h8_⟩
                      have n9_ : Aside0 (gb164 ≠ gb140) := ⟨h9_⟩
                      have n10_ : Aside0 (gb141 ≠ gb164) := ⟨h10_⟩
                      have n11_ : Aside0 (gb164 ≠ gb141) := ⟨h11_⟩
                      have n12_ : Aside0 (gb151 ≠ gb164) := ⟨h12_⟩
                      have n13_ : Aside0 (gb164 ≠ gb151) := ⟨h13_⟩
                      have n14_ : Aside0 (Below w.heap.size w w62) := ⟨h14_⟩
                      clear HO_9
                      clear HO_152002
                      clear BK140
                      clear BK141
                      clear BK151
                      clear HB
                      clear h0_ h1_ h2_ h3_ h4_ h5_ h6_ h7_ h8_ h9_ h10_ h11_ h12_ h13_ h14_
                      have HO_152002 := n0_
                      have HO_9 := n1_
                      have BK140 := n2_
                      have BK141 := n3_
                      have BK151 := n4_
                      have BK164 := n5_
                      have GW164 := n6_
                      have GE164 := n7_
                      have NB140_164 := n8_
                      have NB164_140 := n9_
                      have NB141_164 := n10_
                      have NB164_141 := n11_
                      have NB151_164 := n12_
                      have NB164_151 := n13_
                      have HB := n14_
                      clear n0_ n1_ n2_ n3_ n4_ n5_ n6_ n7_ n8_ n9_ n10_ n11_ n12_ n13_ n14_
                      have hHeld : w62.cell? ⟨gb151, 0, none⟩ = some (.int .i64 t142) ∧ w62.cell? ⟨gb151, 1, none⟩ = some (.int .i64 t143) ∧ w62.cell? ⟨gb151, 2, none⟩ = some (.slice Ao15 t144.length co15) ∧ w62.cell? ⟨gb140, 0, none⟩ = some (.int .i64 x141000_2) ∧ w62.cell? ⟨gb140, 1, none⟩ = some (.int .i64 x141001_2) ∧ w62.cell? ⟨gb140, 2, none⟩ = some (.int .i64 x141002_2) ∧ w62.cell? ⟨gb140, 3, none⟩ = some (.int .i64 x141003_2) ∧ w62.cell? ⟨gb140, 4, none⟩ = some (.int .i64 x141004_2) ∧ w62.cell? ⟨gb140, 5, none⟩ = some (.int .i64 x141005_2) ∧ w62.cell? ⟨gb140, 6, none⟩ = some (.int .i64 x141006_2) ∧ w62.cell? ⟨gb140, 7, none⟩ = some (.int .i64 x141007_2) := hS_
                      refine norm_ (a' := ?_) ?_ ?_
                      rotate_left
                      · simp only [putAll, Act.put, List.setIfInBounds_toArray, List.set_cons_zero, List.set_cons_succ]
                        rfl
                      refine one_ (i := 14) (N := none) #[true, true, true, true, true, true, true, true, true, true, true, true, true, true, true, false] rfl rfl (one_of HT_.out (by kernel_rfl)) (by decide) (fun K hK => ?_)
                      have hs63 : w62.cell? ⟨gb164, 0, none⟩ = some (.int .i64 0) := (blk_cell BK164.out 0).trans rfl
                      have hfs63 := blk_frozen BK164.out 0
                      have hns63_0 := NB140_164.out
                      have hns63_1 := NB141_164.out
                      have hns63_2 := NB151_164.out
                      have hms63_0 := NB164_140.out
                      have hms63_1 := NB164_141.out
                      have hms63_2 := NB164_151.out
                      have hs64 : w62.cell? ⟨gb164, 1, none⟩ = some (.int .i64 0) := (blk_cell BK164.out 1).trans rfl
                      have hfs64 := blk_frozen BK164.out 1
                      have hns64_0 := NB140_164.out
                      have hns64_1 := NB141_164.out
                      have hns64_2 := NB151_164.out
                      have hms64_0 := NB164_140.out
                      have hms64_1 := NB164_141.out
                      have hms64_2 := NB164_151.out
                      have hs65 : w62.cell? ⟨gb164, 2, none⟩ = some (.int .i64 0) := (blk_cell BK164.out 2).trans rfl
                      have hfs65 := blk_frozen BK164.out 2
                      have hns65_0 := NB140_164.out
                      have hns65_1 := NB141_164.out
                      have hns65_2 := NB151_164.out
                      have hms65_0 := NB164_140.out
                      have hms65_1 := NB164_141.out
                      have hms65_2 := NB164_151.out
                      have hs66 : w62.cell? ⟨gb164, 3, none⟩ = some (.int .i64 0) := (blk_cell BK164.out 3).trans rfl
                      have hfs66 := blk_frozen BK164.out 3
                      have hns66_0 := NB140_164.out
                      have hns66_1 := NB141_164.out
                      have hns66_2 := NB151_164.out
                      have hms66_0 := NB164_140.out
                      have hms66_1 := NB164_141.out
                      have hms66_2 := NB164_151.out
                      have hs67 : w62.cell? ⟨gb164, 4, none⟩ = some (.int .i64 0) := (blk_cell BK164.out 4).trans rfl
                      have hfs67 := blk_frozen BK164.out 4
                      have hns67_0 := NB140_164.out
                      have hns67_1 := NB141_164.out
                      have hns67_2 := NB151_164.out
                      have hms67_0 := NB164_140.out
                      have hms67_1 := NB164_141.out
                      have hms67_2 := NB164_151.out
                      have hs68 : w62.cell? ⟨gb164, 5, none⟩ = some (.int .i64 0) := (blk_cell BK164.out 5).trans rfl
                      have hfs68 := blk_frozen BK164.out 5
                      have hns68_0 := NB140_164.out
                      have hns68_1 := NB141_164.out
                      have hns68_2 := NB151_164.out
                      have hms68_0 := NB164_140.out
                      have hms68_1 := NB164_141.out
                      have hms68_2 := NB164_151.out
                      have hs69 : w62.cell? ⟨gb164, 6, none⟩ = some (.int .i64 0) := (blk_cell BK164.out 6).trans rfl
                      have hfs69 := blk_frozen BK164.out 6
                      have hns69_0 := NB140_164.out
                      have hns69_1 := NB141_164.out
                      have hns69_2 := NB151_164.out
                      have hms69_0 := NB164_140.out
                      have hms69_1 := NB164_141.out
                      have hms69_2 := NB164_151.out
                      have hs70 : w62.cell? ⟨gb164, 7, none⟩ = some (.int .i64 0) := (blk_cell BK164.out 7).trans rfl
                      have hfs70 := blk_frozen BK164.out 7
                      have hns70_0 := NB140_164.out
                      have hns70_1 := NB141_164.out
                      have hns70_2 := NB151_164.out
                      have hms70_0 := NB164_140.out
                      have hms70_1 := NB164_141.out
                      have hms70_2 := NB164_151.out
                      refine skip_ (w1 := ?_) (by rfl) rfl ?_ ?_
                      rotate_left
                      · go_simp
                        rfl
                      refine hK.out _ _ ⟨((cell_far (p := ⟨gb164, _, none⟩) NB151_164.out _).trans (((cell_far (p := ⟨gb164, _, none⟩) NB151_164.out _).trans (((cell_far (p := ⟨gb164, _, none⟩) NB151_164.out _).trans (((cell_far (p := ⟨gb164, _, none⟩) NB151_164.out _).trans (((cell_far (p := ⟨gb164, _, none⟩) NB151_164.out _).trans (((cell_far (p := ⟨gb164, _, none⟩) NB151_164.out _).trans (((cell_far (p := ⟨gb164, _, none⟩) NB151_164.out _).trans (((cell_far (p := ⟨gb164, _, none⟩) NB151_164.out _).trans (hHeld.1)))))))))))))))), ((cell_far (p := ⟨gb164, _, none⟩) NB151_164.out _).trans (((cell_far (p := ⟨gb164, _, none⟩) NB151_164.out _).trans (((cell_far (p := ⟨gb164, _, none⟩) NB151_164.out _).trans (((cell_far (p := ⟨gb164, _, none⟩) NB151_164.out _).trans (((cell_far (p := ⟨gb164, _, none⟩) NB151_164.out _).trans (((cell_far (p := ⟨gb164, _, none⟩) NB151_164.out _).trans (((cell_far (p := ⟨gb164, _, none⟩) NB151_164.out _).trans (((cell_far (p := ⟨gb164, _, none⟩) NB151_164.out _).trans (hHeld.2.1)))))))))))))))), ((cell_far (p := ⟨gb164, _, none⟩) NB151_164.out _).trans (((cell_far (p := ⟨gb164, _, none⟩) NB151_164.out _).trans (((cell_far (p := ⟨gb164, _, none⟩) NB151_164.out _).trans (((cell_far (p := ⟨gb164, _, none⟩) NB151_164.out _).trans (((cell_far (p := ⟨gb164, _, none⟩) NB151_164.out _).trans (((cell_far (p := ⟨gb164, _, none⟩) NB151_164.out _).trans (((cell_far (p := ⟨gb164, _, none⟩) NB151_164.out _).trans (((cell_far (p := ⟨gb164, _, none⟩) NB151_164.out _).trans (hHeld.2.2.1)))))))))))))))), ((cell_far (p := ⟨gb164, _, none⟩) NB140_164.out _).trans (((cell_far (p := ⟨gb164, _, none⟩) NB140_164.out _).trans (((cell_far (p := ⟨gb164, _, none⟩) NB140_164.out _).trans (((cell_far (p := ⟨gb164, _, none⟩) NB140_164.out _).trans (((cell_far (p := ⟨gb164, _, none⟩) NB140_164.out _).trans (((cell_far (p := ⟨gb164, _, none⟩) NB140_164.out _).trans (((cell_far (p := ⟨gb164, _, none⟩) NB140_164.out _).trans (((cell_far (p := ⟨gb164, _, none⟩) NB140_164.out _).trans (hHeld.2.2.2.1)))))))))))))))), ((cell_far (p := ⟨gb164, _, none⟩) NB140_164.out _).trans (((cell_far (p := ⟨gb164, _, none⟩) NB140_164.out _).trans (((cell_far (p := ⟨gb164, _, none⟩) NB140_164.out _).trans (((cell_far (p := ⟨gb164, _, none⟩) NB140_164.out _).trans (((cell_far (p := ⟨gb164, _, none⟩) NB140_164.out _).trans (((cell_far (p := ⟨gb164, _, none⟩) NB140_164.out _).trans (((cell_far (p := ⟨gb164, _, none⟩) NB140_164.out _).trans (((cell_far (p := ⟨gb164, _, none⟩) NB140_164.out _).trans (hHeld.2.2.2.2.1)))))))))))))))), ((cell_far (p := ⟨gb164, _, none⟩) NB140_164.out _).trans (((cell_far (p := ⟨gb164, _, none⟩) NB140_164.out _).trans (((cell_far (p := ⟨gb164, _, none⟩) NB140_164.out _).trans (((cell_far (p := ⟨gb164, _, none⟩) NB140_164.out _).trans (((cell_far (p := ⟨gb164, _, none⟩) NB140_164.out _).trans (((cell_far (p := ⟨gb164, _, none⟩) NB140_164.out _).trans (((cell_far (p := ⟨gb164, _, none⟩) NB140_164.out _).trans (((cell_far (p := ⟨gb164, _, none⟩) NB140_164.out _).trans (hHeld.2.2.2.2.2.1)))))))))))))))), ((cell_far (p := ⟨gb164, _, none⟩) NB140_164.out _).trans (((cell_far (p := ⟨gb164, _, none⟩) NB140_164.out _).trans (((cell_far (p := ⟨gb164, _, none⟩) NB140_164.out _).trans (((cell_far (p := ⟨gb164, _, none⟩) NB140_164.out _).trans (((cell_far (p := ⟨gb164, _, none⟩) NB140_164.out _).trans (((cell_far (p := ⟨gb164, _, none⟩) NB140_164.out _).trans (((cell_far (p := ⟨gb164, _, none⟩) NB140_164.out _).trans (((cell_far (p := ⟨gb164, _, none⟩) NB140_164.out _).trans (hHeld.2.2.2.2.2.2.1)))))))))))))))), ((cell_far (p := ⟨gb164, _, none⟩) NB140_164.out _).trans (((cell_far (p := ⟨gb164, _, none⟩) NB140_164.out _).trans (((cell_far (p := ⟨gb164, _, none⟩) NB140_164.out _).trans (((cell_far (p := ⟨gb164, _, none⟩) NB140_164.out _).trans (((cell_far (p := ⟨gb164, _, none⟩) NB140_164.out _).trans (((cell_far (p := ⟨gb164, _, none⟩) NB140_164.out _).trans (((cell_far (p := ⟨gb164, _, none⟩) NB140_164.out _).trans (((cell_far (p := ⟨gb164, _, none⟩) NB140_164.out _).trans (hHeld.2.2.2.2.2.2.2.1)))))))))))))))), ((cell_far (p := ⟨gb164, _, none⟩) NB140_164.out _).trans (((cell_far (p := ⟨gb164, _, none⟩) NB140_164.out _).trans (((cell_far (p := ⟨gb164, _, none⟩) NB140_164.out _).trans (((cell_far (p := ⟨gb164, _, none⟩) NB140_164.out _).trans (((cell_far (p := ⟨gb164, _, none⟩) NB140_164.out _).trans (((cell_far (p := ⟨gb164, _, none⟩) NB140_164.out _).trans (((cell_far (p := ⟨gb164, _, none⟩) NB140_164.out _).trans (((cell_far (p := ⟨gb164, _, none⟩) NB140_164.out _).trans (hHeld.2.2.2.2.2.2.2.2.1)))))))))))))))), ((cell_far (p := ⟨gb164, _, none⟩) NB140_164.out _).trans (((cell_far (p := ⟨gb164, _, none⟩) NB140_164.out _).trans (((cell_far (p := ⟨gb164, _, none⟩) NB140_164.out _).trans (((cell_far (p := ⟨gb164, _, none⟩) NB140_164.out _).trans (((cell_far (p := ⟨gb164, _, none⟩) NB140_164.out _).trans (((cell_far (p := ⟨gb164, _, none⟩) NB140_164.out _).trans (((cell_far (p := ⟨gb164, _, none⟩) NB140_164.out _).trans (((cell_far (p := ⟨gb164, _, none⟩) NB140_164.out _).trans (hHeld.2.2.2.2.2.2.2.2.2.1)))))))))))))))), ((cell_far (p := ⟨gb164, _, none⟩) NB140_164.out _).trans (((cell_far (p := ⟨gb164, _, none⟩) NB140_164.out _).trans (((cell_far (p := ⟨gb164, _, none⟩) NB140_164.out _).trans (((cell_far (p := ⟨gb164, _, none⟩) NB140_164.out _).trans (((cell_far (p := ⟨gb164, _, none⟩) NB140_164.out _).trans (((cell_far (p := ⟨gb164, _, none⟩) NB140_164.out _).trans (((cell_far (p := ⟨gb164, _, none⟩) NB140_164.out _).trans (((cell_far (p := ⟨gb164, _, none⟩) NB140_164.out _).trans (hHeld.2.2.2.2.2.2.2.2.2.2))))))))))))))))⟩ (fun hHeld => ?_)
                      clear hK K
                      refine pure_ (i := 15) (N := some 13) (v := ?_) (a' := ?_) #[true, true, true, true, true, true, true, true, true, true, true, true, true, true, true, true] rfl rfl (any_of HT_.out (by kernel_rfl)) (fun _ _ _ h => h) (Or.inl ⟨by rfl, ?_⟩) ?_ ?_
                      rotate_left
                      · intro w'
                        go_simp
                        with_reducible rfl
                      rotate_left
                      · simp only [Act.put, List.setIfInBounds_toArray, List.set_cons_zero, List.set_cons_succ, i64_w, i32_w]
                        rfl
                      refine done_ (done_of HT_.out (by kernel_rfl)) ?_
                      have hnb71 := NB141_140.out
                      have hnc71 := NB140_141.out
                      have hnb72 := NB141_151.out
                      have hnc72 := NB151_141.out
                      have hnb73 := NB141_164.out
                      have hnc73 := NB164_141.out
                      have hcz74_0 : w62.cell? ⟨gb141, 0, none⟩ = some (.int .i64 x142000_2) := (blk_cell BK141.out 0).trans rfl
                      have hcz74_1 : w62.cell? ⟨gb141, 1, none⟩ = some (.int .i64 x142001_2) := (blk_cell BK141.out 1).trans rfl
                      have hcz74_2 : w62.cell? ⟨gb141, 2, none⟩ = some (.int .i64 x142002_2) := (blk_cell BK141.out 2).trans rfl
                      have hcz74_3 : w62.cell? ⟨gb141, 3, none⟩ = some (.int .i64 x142003_2) := (blk_cell BK141.out 3).trans rfl
                      have hcz74_4 : w62.cell? ⟨gb141, 4, none⟩ = some (.int .i64 x142004_2) := (blk_cell BK141.out 4).trans rfl
                      have hcz74_5 : w62.cell? ⟨gb141, 5, none⟩ = some (.int .i64 x142005_2) := (blk_cell BK141.out 5).trans rfl
                      have hcz74_6 : w62.cell? ⟨gb141, 6, none⟩ = some (.int .i64 x142006_2) := (blk_cell BK141.out 6).trans rfl
                      have hcz74_7 : w62.cell? ⟨gb141, 7, none⟩ = some (.int .i64 x142007_2) := (blk_cell BK141.out 7).trans rfl
                      have hfz74_0 := blk_frozen BK141.out 0
                      have hfz74_1 := blk_frozen BK141.out 1
                      have hfz74_2 := blk_frozen BK141.out 2
                      have hfz74_3 := blk_frozen BK141.out 3
                      have hfz74_4 := blk_frozen BK141.out 4
                      have hfz74_5 := blk_frozen BK141.out 5
                      have hfz74_6 := blk_frozen BK141.out 6
                      have hfz74_7 := blk_frozen BK141.out 7
                      try go_wp2
                      refine bodyPost_ret (results_ct rfl _ _ gb141 33 #[.int .i64 0, .int .i64 0, .int .i64 0, .int .i64 0, .int .i64 0, .int .i64 0, .int .i64 0, .int .i64 0] (0, 0) _ rfl (by (with_reducible repeat (first | refine blk_drewN ?_ _ | refine blk_drew ?_ | refine blk_alloc ?_ _)); refine blk_put (cs := #[.int .i64 0, .int .i64 0, .int .i64 0, .int .i64 0, .int .i64 0, .int .i64 0, .int .i64 0, .int .i64 x142007_2]) ?_ 7 _ rfl; (with_reducible repeat (first | refine blk_drewN ?_ _ | refine blk_drew ?_ | refine blk_alloc ?_ _)); refine blk_put (cs := #[.int .i64 0, .int .i64 0, .int .i64 0, .int .i64 0, .int .i64 0, .int .i64 0, .int .i64 x142006_2, .int .i64 x142007_2]) ?_ 6 _ rfl; (with_reducible repeat (first | refine blk_drewN ?_ _ | refine blk_drew ?_ | refine blk_alloc ?_ _)); refine blk_put (cs := #[.int .i64 0, .int .i64 0, .int .i64 0, .int .i64 0, .int .i64 0, .int .i64 x142005_2, .int .i64 x142006_2, .int .i64 x142007_2]) ?_ 5 _ rfl; (with_reducible repeat (first | refine blk_drewN ?_ _ | refine blk_drew ?_ | refine blk_alloc ?_ _)); refine blk_put (cs := #[.int .i64 0, .int .i64 0, .int .i64 0, .int .i64 0, .int .i64 x142004_2, .int .i64 x142005_2, .int .i64 x142006_2, .int .i64 x142007_2]) ?_ 4 _ rfl; (with_reducible repeat (first | refine blk_drewN ?_ _ | refine blk_drew ?_ | refine blk_alloc ?_ _)); refine blk_put (cs := #[.int .i64 0, .int .i64 0, .int .i64 0, .int .i64 x142003_2, .int .i64 x142004_2, .int .i64 x142005_2, .int .i64 x142006_2, .int .i64 x142007_2]) ?_ 3 _ rfl; (with_reducible repeat (first | refine blk_drewN ?_ _ | refine blk_drew ?_ | refine blk_alloc ?_ _)); refine blk_put (cs := #[.int .i64 0, .int .i64 0, .int .i64 x142002_2, .int .i64 x142003_2, .int .i64 x142004_2, .int .i64 x142005_2, .int .i64 x142006_2, .int .i64 x142007_2]) ?_ 2 _ rfl; (with_reducible repeat (first | refine blk_drewN ?_ _ | refine blk_drew ?_ | refine blk_alloc ?_ _)); refine blk_put (cs := #[.int .i64 0, .int .i64 x142001_2, .int .i64 x142002_2, .int .i64 x142003_2, .int .i64 x142004_2, .int .i64 x142005_2, .int .i64 x142006_2, .int .i64 x142007_2]) ?_ 1 _ rfl; (with_reducible repeat (first | refine blk_drewN ?_ _ | refine blk_drew ?_ | refine blk_alloc ?_ _)); refine blk_put (cs := #[.int .i64 x142000_2, .int .i64 x142001_2, .int .i64 x142002_2, .int .i64 x142003_2, .int .i64 x142004_2, .int .i64 x142005_2, .int .i64 x142006_2, .int .i64 x142007_2]) ?_ 0 _ rfl; (with_reducible repeat (first | refine blk_drewN ?_ _ | refine blk_drew ?_ | refine blk_alloc ?_ _)); refine blk_far ?_ NB141_164.out _; (with_reducible repeat (first | refine blk_drewN ?_ _ | refine blk_drew ?_ | refine blk_alloc ?_ _)); refine blk_far ?_ NB141_164.out _; (with_reducible repeat (first | refine blk_drewN ?_ _ | refine blk_drew ?_ | refine blk_alloc ?_ _)); refine blk_far ?_ NB141_164.out _; (with_reducible repeat (first | refine blk_drewN ?_ _ | refine blk_drew ?_ | refine blk_alloc ?_ _)); refine blk_far ?_ NB141_164.out _; (with_reducible repeat (first | refine blk_drewN ?_ _ | refine blk_drew ?_ | refine blk_alloc ?_ _)); refine blk_far ?_ NB141_164.out _; (with_reducible repeat (first | refine blk_drewN ?_ _ | refine blk_drew ?_ | refine blk_alloc ?_ _)); refine blk_far ?_ NB141_164.out _; (with_reducible repeat (first | refine blk_drewN ?_ _ | refine blk_drew ?_ | refine blk_alloc ?_ _)); refine blk_far ?_ NB141_164.out _; (with_reducible repeat (first | refine blk_drewN ?_ _ | refine blk_drew ?_ | refine blk_alloc ?_ _)); refine blk_far ?_ NB141_164.out _; (with_reducible repeat (first | refine blk_drewN ?_ _ | refine blk_drew ?_ | refine blk_alloc ?_ _)); exact BK141.out) Tryd.underlying33 rfl (by kernel_rfl)) rfl ?_
                      exact ⟨by first | rfl | (simp [errW_none, errW_some] <;> rfl) | (simp [*, errW_none, errW_some] <;> rfl), by repeat (first | (with_reducible first | exact HB.out | apply below_alloc | apply pw_below_drewN | apply below_drew1 | refine below_set ?_ GE140.out | refine below_set ?_ GE141.out | refine below_set ?_ GE151.out | refine below_set ?_ GE164.out) | exact HB.out)⟩
                  · rw [if_neg c34] at H
                    exact absurd H (by simp)
                · rw [if_neg c33] at H
                  exact absurd H (by simp)
              · rw [if_neg c32] at H
                exact absurd H (by simp)
            · rw [if_neg c31] at H
              have c31b0 : decide (x11_2 < (a2.size : Int)) = false := decide_eq_false c31
              clear c31
              simp only [Option.some.injEq, Prod.mk.injEq] at H
              obtain ⟨rfl, rfl, rfl, rfl, rfl, rfl, rfl, rfl, rfl⟩ := H
              have hnb75 := NB140_141.out
              have hnc75 := NB141_140.out
              have hnb76 := NB140_151.out
              have hnc76 := NB151_140.out
              have hcz77_0 : wr.cell? ⟨gb140, 0, none⟩ = some (.int .i64 x141000_2) := (blk_cell BK140.out 0).trans rfl
              have hcz77_1 : wr.cell? ⟨gb140, 1, none⟩ = some (.int .i64 x141001_2) := (blk_cell BK140.out 1).trans rfl
              have hcz77_2 : wr.cell? ⟨gb140, 2, none⟩ = some (.int .i64 x141002_2) := (blk_cell BK140.out 2).trans rfl
              have hcz77_3 : wr.cell? ⟨gb140, 3, none⟩ = some (.int .i64 x141003_2) := (blk_cell BK140.out 3).trans rfl
              have hcz77_4 : wr.cell? ⟨gb140, 4, none⟩ = some (.int .i64 x141004_2) := (blk_cell BK140.out 4).trans rfl
              have hcz77_5 : wr.cell? ⟨gb140, 5, none⟩ = some (.int .i64 x141005_2) := (blk_cell BK140.out 5).trans rfl
              have hcz77_6 : wr.cell? ⟨gb140, 6, none⟩ = some (.int .i64 x141006_2) := (blk_cell BK140.out 6).trans rfl
              have hcz77_7 : wr.cell? ⟨gb140, 7, none⟩ = some (.int .i64 x141007_2) := (blk_cell BK140.out 7).trans rfl
              have hfz77_0 := blk_frozen BK140.out 0
              have hfz77_1 := blk_frozen BK140.out 1
              have hfz77_2 := blk_frozen BK140.out 2
              have hfz77_3 := blk_frozen BK140.out 3
              have hfz77_4 := blk_frozen BK140.out 4
              have hfz77_5 := blk_frozen BK140.out 5
              have hfz77_6 := blk_frozen BK140.out 6
              have hfz77_7 := blk_frozen BK140.out 7
              have hnb78 := NB141_151.out
              have hnc78 := NB151_141.out
              have hcz79_0 : wr.cell? ⟨gb141, 0, none⟩ = some (.int .i64 x142000_2) := (blk_cell BK141.out 0).trans rfl
              have hcz79_1 : wr.cell? ⟨gb141, 1, none⟩ = some (.int .i64 x142001_2) := (blk_cell BK141.out 1).trans rfl
              have hcz79_2 : wr.cell? ⟨gb141, 2, none⟩ = some (.int .i64 x142002_2) := (blk_cell BK141.out 2).trans rfl
              have hcz79_3 : wr.cell? ⟨gb141, 3, none⟩ = some (.int .i64 x142003_2) := (blk_cell BK141.out 3).trans rfl
              have hcz79_4 : wr.cell? ⟨gb141, 4, none⟩ = some (.int .i64 x142004_2) := (blk_cell BK141.out 4).trans rfl
              have hcz79_5 : wr.cell? ⟨gb141, 5, none⟩ = some (.int .i64 x142005_2) := (blk_cell BK141.out 5).trans rfl
              have hcz79_6 : wr.cell? ⟨gb141, 6, none⟩ = some (.int .i64 x142006_2) := (blk_cell BK141.out 6).trans rfl
              have hcz79_7 : wr.cell? ⟨gb141, 7, none⟩ = some (.int .i64 x142007_2) := (blk_cell BK141.out 7).trans rfl
              have hfz79_0 := blk_frozen BK141.out 0
              have hfz79_1 := blk_frozen BK141.out 1
              have hfz79_2 := blk_frozen BK141.out 2
              have hfz79_3 := blk_frozen BK141.out 3
              have hfz79_4 := blk_frozen BK141.out 4
              have hfz79_5 := blk_frozen BK141.out 5
              have hfz79_6 := blk_frozen BK141.out 6
              have hfz79_7 := blk_frozen BK141.out 7
              go_wp2
              refine bodyPost_ret (results_ct rfl _ _ gb141 33 #[.int .i64 x141000_2, .int .i64 x141001_2, .int .i64 x141002_2, .int .i64 x141003_2, .int .i64 x141004_2, .int .i64 x141005_2, .int .i64 x141006_2, .int .i64 x141007_2] (0, 0) _ rfl (by (with_reducible repeat (first | refine blk_drewN ?_ _ | refine blk_drew ?_ | refine blk_alloc ?_ _)); refine blk_put (cs := #[.int .i64 x141000_2, .int .i64 x141001_2, .int .i64 x141002_2, .int .i64 x141003_2, .int .i64 x141004_2, .int .i64 x141005_2, .int .i64 x141006_2, .int .i64 x142007_2]) ?_ 7 _ rfl; (with_reducible repeat (first | refine blk_drewN ?_ _ | refine blk_drew ?_ | refine blk_alloc ?_ _)); refine blk_put (cs := #[.int .i64 x141000_2, .int .i64 x141001_2, .int .i64 x141002_2, .int .i64 x141003_2, .int .i64 x141004_2, .int .i64 x141005_2, .int .i64 x142006_2, .int .i64 x142007_2]) ?_ 6 _ rfl; (with_reducible repeat (first | refine blk_drewN ?_ _ | refine blk_drew ?_ | refine blk_alloc ?_ _)); refine blk_put (cs := #[.int .i64 x141000_2, .int .i64 x141001_2, .int .i64 x141002_2, .int .i64 x141003_2, .int .i64 x141004_2, .int .i64 x142005_2, .int .i64 x142006_2, .int .i64 x142007_2]) ?_ 5 _ rfl; (with_reducible repeat (first | refine blk_drewN ?_ _ | refine blk_drew ?_ | refine blk_alloc ?_ _)); refine blk_put (cs := #[.int .i64 x141000_2, .int .i64 x141001_2, .int .i64 x141002_2, .int .i64 x141003_2, .int .i64 x142004_2, .int .i64 x142005_2, .int .i64 x142006_2, .int .i64 x142007_2]) ?_ 4 _ rfl; (with_reducible repeat (first | refine blk_drewN ?_ _ | refine blk_drew ?_ | refine blk_alloc ?_ _)); refine blk_put (cs := #[.int .i64 x141000_2, .int .i64 x141001_2, .int .i64 x141002_2, .int .i64 x142003_2, .int .i64 x142004_2, .int .i64 x142005_2, .int .i64 x142006_2, .int .i64 x142007_2]) ?_ 3 _ rfl; (with_reducible repeat (first | refine blk_drewN ?_ _ | refine blk_drew ?_ | refine blk_alloc ?_ _)); refine blk_put (cs := #[.int .i64 x141000_2, .int .i64 x141001_2, .int .i64 x142002_2, .int .i64 x142003_2, .int .i64 x142004_2, .int .i64 x142005_2, .int .i64 x142006_2, .int .i64 x142007_2]) ?_ 2 _ rfl; (with_reducible repeat (first | refine blk_drewN ?_ _ | refine blk_drew ?_ | refine blk_alloc ?_ _)); refine blk_put (cs := #[.int .i64 x141000_2, .int .i64 x142001_2, .int .i64 x142002_2, .int .i64 x142003_2, .int .i64 x142004_2, .int .i64 x142005_2, .int .i64 x142006_2, .int .i64 x142007_2]) ?_ 1 _ rfl; (with_reducible repeat (first | refine blk_drewN ?_ _ | refine blk_drew ?_ | refine blk_alloc ?_ _)); refine blk_put (cs := #[.int .i64 x142000_2, .int .i64 x142001_2, .int .i64 x142002_2, .int .i64 x142003_2, .int .i64 x142004_2, .int .i64 x142005_2, .int .i64 x142006_2, .int .i64 x142007_2]) ?_ 0 _ rfl; (with_reducible repeat (first | refine blk_drewN ?_ _ | refine blk_drew ?_ | refine blk_alloc ?_ _)); exact BK141.out) Tryd.underlying33 rfl (by kernel_rfl)) rfl ?_
              exact ⟨by first | rfl | (simp [errW_none, errW_some] <;> rfl) | (simp [*, errW_none, errW_some] <;> rfl), by repeat (first | (with_reducible first | exact HB.out | apply below_alloc | apply pw_below_drewN | apply below_drew1 | refine below_set ?_ GE140.out | refine below_set ?_ GE141.out | refine below_set ?_ GE151.out) | exact HB.out)⟩

end Go.Proofs.YtkmkanpikhnmbaaDoor.QCRollOverLabels
