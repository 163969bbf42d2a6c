/- The reference's tours from a state, walked. Conditions: at most twelve cells with labels. -/
import Derived.Test.YtolopkjpodnmkaaDoorLookS
namespace Go.Proofs.YtolopkjpodnmkaaDoor.FromS
open Go.RowKit Go.Proofs.YtolopkjpodnmkaaDoorW.PrintWords Go.Proofs.YtolopkjpodnmkaaDoorW.PrintLast Go.Proofs.YtolopkjpodnmkaaDoor.Board Go.Proofs.YtolopkjpodnmkaaDoor.BaseM Go.Proofs.YtolopkjpodnmkaaDoor.LabG Go.Proofs.YtolopkjpodnmkaaDoor.ToursI Go.Proofs.YtolopkjpodnmkaaDoor.LookS
open Go.Proofs.YtolopkjpodnmkaaDoor.RowB (rowF row_at row_rep sc_cell RB rb_put rb_far put_self put_ne infoBl)
open Go.Proofs.YtolopkjpodnmkaaDoor.Reach (St)
open Go.Proofs.YtolopkjpodnmkaaDoor.Tour (B sumTo isIn isIn_iff)
set_option linter.unusedVariables false
set_option linter.unusedSimpArgs false

theorem below_none {w w1 : World} (h : w.grownBy w1 none) : Below w.heap.size w w1 := ⟨h.os, h.tape, h.output, h.size, fun k hk => h.block k hk (by simp)⟩
def frs.T1 : Bool × List (List Nat × List Nat) := (true, [([], []), ([], []), ([], []), ([2], [2]), ([3, 3], [3]), ([], []), ([5], [5]), ([6], [6]), ([], []), ([0, 1, 4, 7, 8], [0, 1, 4, 7, 8]), ([9], [9]), ([10, 6, 0, 1, 2, 3, 4, 5, 6, 7, 8, 9, 10], [10])])
def frs.B1 : List Nat := [0, 0, 0, 4, 12, 0, 32, 96, 0, 511, 1023, 2047]
theorem frs.tab1 : rtab .any (opsOf Tryd.f8 1) = frs.T1 := by kernel_rfl
theorem frs.bits1 : waitsOk frs.T1.2 frs.B1 = true := by kernel_rfl
--TABLES
set_option maxHeartbeats 8000000 in
set_option maxRecDepth 100000 in
theorem from_walk (lab : St → Bool) (lvl : St → Int) (can : St → Nat → Bool) (rS : St → Nat → St) (ix : St → Nat) (Gd GF : St → Prop) (gw gh : Int) (Vc : Value) (bL cL N nl : Nat) (mt : Bool) (s : St) (w : World) (hN : 0 < N ∧ N ≤ 100) (hnl : nl ≤ 12) (hl1 : lab s = true → 0 < nl) (hgs : GF s) (hgm : mt = true → Gd s)
    (hB : ∀ n s seen, B can moved lab cellOf n s seen ≤ 4 ^ n) (hgo : ∀ s i, Gd s → can s i = true → rS s i = moved s i ∧ GF (moved s i) ∧ (lab (moved s i) = true → Gd (moved s i))) (hix : ∀ u v, GF u → GF v → (ix u = ix v ↔ cellOf u = cellOf v))
    (hin : ∀ u, GF u → ix u < N ∧ IntKind.i64.wrap (IntKind.i64.wrap (u.y * gw) + u.x) = (ix u : Int) ∧ w.cell? ⟨bL, ix u, none⟩ = some (.int .u8 (lvl u)))
    (hroll : ∀ (s : St) (i : Nat) (W : World), Gd s → i < 4 → Below w.heap.size w W → Calls Tryd.prog 23 #[.agg #[.int .i64 gw, .int .i64 gh, Vc], .slice (some ⟨bL, 0, none⟩) N cL, .agg (st8 s), .int .i64 ((i : Nat) : Int)] W fun e w' => e = .returned (.tuple #[.agg (st8 (rS s i)), .bool (can s i)]) ∧ Below W.heap.size W w')
    (hdig : ∀ (u : St) (W : World), GF u → Below w.heap.size w W → Calls Tryd.prog 15 #[.int .u8 (lvl u)] W fun e w' => e = .returned (.bool (lab u)) ∧ Below W.heap.size W w')
    (hcount : ∀ W : World, Below w.heap.size w W → Calls Tryd.prog 14 #[.slice (some ⟨bL, 0, none⟩) N cL] W fun e w' => e = .returned (.int .i64 ((nl : Nat) : Int)) ∧ Below W.heap.size W w')
    (hmat : ∀ W : World, Below w.heap.size w W → Calls Tryd.prog 16 #[.agg #[.int .i64 gw, .int .i64 gh, Vc], .slice (some ⟨bL, 0, none⟩) N cL, .agg (st8 s)] W fun e w' => e = .returned (.bool mt) ∧ Below W.heap.size W w') :
    Calls Tryd.prog 8 #[.agg #[.int .i64 gw, .int .i64 gh, Vc], .slice (some ⟨bL, 0, none⟩) N cL, .agg (st8 s), .int .i64 1073741824] w fun e w' =>
      ∃ (T bS cS : Nat) (fst : ByteArray) (lf : Int), e = .returned (.pointer (some ⟨T, 0, none⟩)) ∧ Below w.heap.size w w' ∧ w'.heap[T]? = some (.cells (t9 gw gh Vc (.slice (some ⟨bL, 0, none⟩) N cL) bS N cS lf fst (((if (lab s && mt) = true then B can moved lab cellOf (nl - 1) s [cellOf s] else 0) : Nat) : Int)) 40 (0, 0)) := by
  have HLK := Go.Lib.hid (fun T bS cS hT hS hTS => look_walk lab lvl can rS ix Gd GF gw gh Vc bL cL N bS cS T w hT hS hTS hB hgo hix hin hroll hdig)
  have HIN := Go.Lib.hid (hin s hgs)
  have HDG := Go.Lib.hid (fun W hW => hdig s W hgs hW)
  obtain ⟨lb, hlb⟩ : ∃ lb, lb = lab s := ⟨_, rfl⟩
  have HLB := Go.Lib.hid hlb
  rw [← hlb] at HDG ⊢
  obtain ⟨rr, hrr⟩ : ∃ rr : Nat, rr = if (lb && mt) = true then B can moved lab cellOf (nl - 1) s [cellOf s] else 0 := ⟨_, rfl⟩
  rw [← hrr]
  have HRR := Go.Lib.hid hrr
  have HCN := Go.Lib.hid hcount
  have HMT := Go.Lib.hid hmat
  have HN := Go.Lib.hid (And.intro hN (And.intro hnl hl1))
  have HGS := Go.Lib.hid (And.intro hgs hgm)
  have HIX := Go.Lib.hid hix
  have HBL := Go.Lib.hid hB
  clear hN hnl hl1 hgs hgm hB hgo hix hin hroll hdig hcount hmat hlb hrr
  have hb0 : Below w.heap.size w ((w.alloc (.cells #[.int .i64 gw, .int .i64 gh, Vc] 35)).alloc (.cells (st8 s) 30)) := ((Below.refl _ w).alloc (Nat.le_refl _) _).alloc (by simp) _
  have HB := Go.Lib.hid hb0
  have GX := Go.Lib.hid (blk_alloc (blk_new w (.cells #[.int .i64 gw, .int .i64 gh, Vc] 35)) (.cells (st8 s) 30))
  have BX := Go.Lib.hid (blk_new (w.alloc (.cells #[.int .i64 gw, .int .i64 gh, Vc] 35)) (.cells (st8 s) 30))
  clear hb0
  go_enter Tryd.func8, Tryd.ntmps8
  go_upto_region 1 with fail
  obtain ⟨aB, haB⟩ : ∃ aB, aB = w.heap.size := ⟨_, rfl⟩
  obtain ⟨bB, hbB⟩ : ∃ bB, bB = w.heap.size + 1 := ⟨_, rfl⟩
  rw [show (w.alloc (.cells #[.int .i64 gw, .int .i64 gh, Vc] 35)).heap.size = w.heap.size + 1 from by simp, ← hbB] at BX
  rw [← haB] at GX
  rw [← hbB, ← haB]
  clear haB hbB
  generalize World.alloc (World.alloc _ _) _ = w1 at HB GX BX ⊢
  obtain ⟨lf, hlf⟩ : ∃ lf : Int, lf = (nl : Int) - 1 := ⟨_, rfl⟩
  have HLF := Go.Lib.hid hlf
  clear hlf
  refine start_ (n := 12) (S := fun w' => True) (ds := []) #[false, false, false, false, false, false, false, false, false, false, false, false] (by kernel_rfl) rfl rfl trivial (fun hHeld => ?_)
  refine with_tabW frs.tab1 frs.bits1 (fun HT_ HW_ => ?_)
  have n_HB := Go.Lib.hid (below_drew HB.out)
  have n_GX := Go.Lib.hid (blk_drew GX.out)
  have n_BX := Go.Lib.hid (blk_drew BX.out)
  clear HB GX BX
  have HB := n_HB
  have GX := n_GX
  have BX := n_BX
  clear n_HB n_GX n_BX
  generalize World.drew _ = w1_ at HB GX BX hHeld ⊢
  refine pure_ (i := 1) (N := some 12) (v := ?_) (a' := ?_) #[false, true, false, false, false, false, false, false, false, false, false, false] rfl rfl (any_of HT_.out (by kernel_rfl)) (fun _ _ _ h => h) (Or.inl ⟨by rfl, ?_⟩) ?_ ?_
  rotate_left
  · intro w'
    go_simp
    with_reducible rfl
  rotate_left
  · simp only [Act.put, List.setIfInBounds_toArray, List.set_cons_zero, List.set_cons_succ, i64_w, i32_w]
    rfl
  refine pure_ (i := 2) (N := some 13) (v := ?_) (a' := ?_) #[false, true, true, false, false, false, false, false, false, false, false, false] rfl rfl (any_of HT_.out (by kernel_rfl)) (fun _ _ _ h => h) (Or.inl ⟨by rfl, ?_⟩) ?_ ?_
  rotate_left
  · intro w'
    go_simp
    with_reducible rfl
  rotate_left
  · simp only [Act.put, List.setIfInBounds_toArray, List.set_cons_zero, List.set_cons_succ, i64_w, i32_w]
    rfl
  refine pure_ (i := 3) (N := some 14) (v := ?_) (a' := ?_) #[false, true, true, true, false, false, false, false, false, false, false, false] rfl rfl (any_of HT_.out (by kernel_rfl)) (fun _ _ _ h => h) (Or.inl ⟨by rfl, ?_⟩) ?_ ?_
  rotate_left
  · intro w'
    go_simp
    with_reducible rfl
  rotate_left
  · simp only [Act.put, List.setIfInBounds_toArray, List.set_cons_zero, List.set_cons_succ, i64_w, i32_w]
    rfl
  refine pure_ (i := 5) (N := some 16) (v := ?_) (a' := ?_) #[false, true, true, true, false, true, false, false, false, false, false, false] rfl rfl (any_of HT_.out (by kernel_rfl)) (fun _ _ _ h => h) (Or.inl ⟨by rfl, ?_⟩) ?_ ?_
  rotate_left
  · intro w'
    go_simp
    with_reducible rfl
  rotate_left
  · simp only [Act.put, List.setIfInBounds_toArray, List.set_cons_zero, List.set_cons_succ, i64_w, i32_w]
    rfl
  refine pure_ (i := 8) (N := some 19) (v := ?_) (a' := ?_) #[false, true, true, true, false, true, false, false, true, false, false, false] rfl rfl (any_of HT_.out (by kernel_rfl)) (fun _ _ _ h => h) (Or.inl ⟨by rfl, ?_⟩) ?_ ?_
  rotate_left
  · intro w'
    go_simp
    with_reducible rfl
  rotate_left
  · simp only [Act.put, List.setIfInBounds_toArray, List.set_cons_zero, List.set_cons_succ, i64_w, i32_w]
    rfl
  refine inv_at [0, 4, 6, 7, 9, 10, 11] (fun a0_ b a w' => ∃ (bS_ : Nat) (cS_ : Nat) (T_ : Nat) (m4_ : Value) (m9_ : Value) (m10_ : Value) (m11_ : Value), a = putSel a0_ b [(0, 11, .agg #[.int .i64 gw, .int .i64 gh, Vc]), (4, 15, m4_), (6, 17, .int .i64 (nl : Int)), (7, 18, .int .i64 lf), (9, 20, m9_), (10, 21, m10_), (11, 9, m11_)] ∧ (Below w.heap.size w w') ∧ (w'.heap[aB]? = some (.cells #[.int .i64 gw, .int .i64 gh, Vc] 35 (0, 0))) ∧ (w'.heap[bB]? = some (.cells (st8 s) 30 (0, 0))) ∧ (b 4 = true → RB w.heap.size w' bS_ N cS_ (fun _ => false)) ∧ (b 4 = true → w.heap.size ≤ bS_ ∧ bS_ ≠ bB) ∧ (b 10 = true → w'.heap[T_]? = some (.cells (t9 gw gh Vc (.slice (some ⟨bL, 0, none⟩) N cL) bS_ N cS_ lf ⟨#[]⟩ 0) 40 (0, 0)) ∧ w.heap.size ≤ T_ ∧ T_ ≠ bS_) ∧ (b 4 = true → (m4_ : Value) = .slice (some ⟨bS_, 0, none⟩) N cS_) ∧ (b 9 = true → (m9_ : Value) = .agg #[.int .i64 gw, .int .i64 gh, Vc, .slice (some ⟨bL, 0, none⟩) N cL, .slice (some ⟨bS_, 0, none⟩) N cS_, .int .i64 lf, .string ⟨#[]⟩, .int .i64 0, .int .i64 1073741824]) ∧ (b 10 = true → (m10_ : Value) = .pointer (some ⟨T_, 0, none⟩)) ∧ (b 11 = true → (m11_ : Value) = .pointer (some ⟨T_, 0, none⟩))) HT_.out HW_.out (by kernel_rfl) (by kernel_rfl) ?_ ?_ ?_
  · exact ⟨0, 0, 0, .bool false, .bool false, .bool false, .bool false, by simp only [putSel, Bool.false_eq_true, if_false], HB.out, GX.out, BX.out, fun h_ => absurd h_ (by decide), fun h_ => absurd h_ (by decide), fun h_ => absurd h_ (by decide), fun h_ => absurd h_ (by decide), fun h_ => absurd h_ (by decide), fun h_ => absurd h_ (by decide), fun h_ => absurd h_ (by decide)⟩
  · skip
    clear BX GX HB
    refine steps_cons ?_ ?_
    · rintro b a w' ⟨bS_, cS_, T_, m4_, m9_, m10_, m11_, ha, Q_HB, Q_GX, Q_BX, Q_RS, Q_NE, Q_TB, Q_X4_, Q_X9_, Q_X10_, Q_X11_⟩ hb_ hon hoff
      refine ⟨_, rfl, fun K hK => ?_⟩
      have e4 : a.tmps[4]? = some (.pointer (some ⟨aB, 0, none⟩)) := by rw [ha]; exact (putSel_off rfl).trans rfl
      replace ha := Aside0.mk ha
      have HB := Aside0.mk Q_HB
      have GX := Aside0.mk Q_GX
      have BX := Aside0.mk Q_BX
      have o0 : w'.cell? ⟨aB, 0, none⟩ = some (.int .i64 gw) := blk_cell GX.out 0
      have o1 : w'.cell? ⟨aB, 1, none⟩ = some (.int .i64 gh) := blk_cell GX.out 1
      have o2 : w'.cell? ⟨aB, 2, none⟩ = some Vc := blk_cell GX.out 2
      refine value_ (w1 := w') (v := .agg #[.int .i64 gw, .int .i64 gh, Vc]) (by rfl) rfl ?_ ?_
      · go_simp
        (try simp only [i64_w])
        try rfl
      refine hK.out _ _ ⟨bS_, cS_, T_, m4_, m9_, m10_, m11_, (by rw [ha.out]; exact putSel_upk 0 hb_ rfl rfl rfl), Q_HB, Q_GX, Q_BX, Q_RS, Q_NE, fun h0_ => absurd ((hoff 10 (by kernel_rfl)).symm.trans h0_) (by decide), Q_X4_, fun h0_ => absurd ((hoff 9 (by kernel_rfl)).symm.trans h0_) (by decide), fun h0_ => absurd ((hoff 10 (by kernel_rfl)).symm.trans h0_) (by decide), fun h0_ => absurd ((hoff 11 (by kernel_rfl)).symm.trans h0_) (by decide)⟩
    refine steps_cons ?_ ?_
    · rintro b a w' ⟨bS_, cS_, T_, m4_, m9_, m10_, m11_, ha, Q_HB, Q_GX, Q_BX, Q_RS, Q_NE, Q_TB, Q_X4_, Q_X9_, Q_X10_, Q_X11_⟩ hb_ hon hoff
      refine ⟨_, rfl, fun K hK => ?_⟩
      have e14 : a.tmps[14]? = some (.int .i64 (N : Int)) := by rw [ha]; exact (putSel_off rfl).trans rfl
      replace ha := Aside0.mk ha
      have HB := Aside0.mk Q_HB
      have GX := Aside0.mk Q_GX
      have BX := Aside0.mk Q_BX
      refine Kd.R_make_step Kd.bool (w0 := w) w.heap.size 4 (by rfl) rfl 38 (.tmp 14) (.tmp 14) rfl (N : Int) (eval_of e14) (eval_of e14) Tryd.underlying38 (.bool false) 1 infoBl rfl (by decide) (by decide) false (ok := fun _ => True) (okp := fun _ => True) rfl (fun _ _ => trivial) trivial (by omega) (by have h_ := HN.out.1.2; omega) HB.out HB.out.size ?_
      intro v1 w1 ho hb hg hat
      rw [Int.toNat_natCast, row_rep] at ho
      obtain ⟨b_, c_, hv_, hb1_, hs1_⟩ := Kd.R_form ho (by rw [RowB.row_len]; exact HN.out.1.1)
      rw [RowB.row_len] at hv_
      subst hv_
      obtain ⟨b2_, hb2_, hs2_⟩ := hat
      obtain rfl : b_ = b2_ := by simpa [Value.ownBlock] using hb2_
      refine hK.out _ _ ⟨b_, c_, T_, (.slice (some ⟨b_, 0, none⟩) N c_), m9_, m10_, m11_, (by rw [ha.out]; exact putSel_upk 1 hb_ rfl rfl rfl), hb, blk_below GX.out (below_none hg), blk_below BX.out (below_none hg), fun _ => ho, fun _ => ⟨hb1_, by have h_ := blk_lt BX.out; omega⟩, fun h0_ => absurd ((hoff 10 (by kernel_rfl)).symm.trans h0_) (by decide), fun _ => rfl, fun h0_ => absurd ((hoff 9 (by kernel_rfl)).symm.trans h0_) (by decide), fun h0_ => absurd ((hoff 10 (by kernel_rfl)).symm.trans h0_) (by decide), fun h0_ => absurd ((hoff 11 (by kernel_rfl)).symm.trans h0_) (by decide)⟩
    refine steps_cons ?_ ?_
    · rintro b a w' ⟨bS_, cS_, T_, m4_, m9_, m10_, m11_, ha, Q_HB, Q_GX, Q_BX, Q_RS, Q_NE, Q_TB, Q_X4_, Q_X9_, Q_X10_, Q_X11_⟩ hb_ hon hoff
      refine ⟨_, rfl, fun K hK => ?_⟩
      have e16 : a.tmps[16]? = some (.slice (some ⟨bL, 0, none⟩) N cL) := by rw [ha]; exact (putSel_off rfl).trans rfl
      replace ha := Aside0.mk ha
      have HB := Aside0.mk Q_HB
      have GX := Aside0.mk Q_GX
      have BX := Aside0.mk Q_BX
      refine call_ 14 #[.slice (some ⟨bL, 0, none⟩) N cL] (by rfl) rfl ?_ ?_
      · go_simp
        (try rfl)
      with_reducible refine (HCN.out w' HB.out).mono ?_
      rintro e' w1 ⟨rfl, hb⟩
      refine ⟨_, rfl, ?_⟩
      refine hK.out _ _ ⟨bS_, cS_, T_, m4_, m9_, m10_, m11_, (by rw [ha.out]; exact putSel_upk 2 hb_ rfl rfl rfl), below_then HB.out HB.out.size hb, blk_below GX.out hb, blk_below BX.out hb, fun h0_ => Kd.R_below (Q_RS h0_) hb, Q_NE, fun h0_ => absurd ((hoff 10 (by kernel_rfl)).symm.trans h0_) (by decide), Q_X4_, fun h0_ => absurd ((hoff 9 (by kernel_rfl)).symm.trans h0_) (by decide), fun h0_ => absurd ((hoff 10 (by kernel_rfl)).symm.trans h0_) (by decide), fun h0_ => absurd ((hoff 11 (by kernel_rfl)).symm.trans h0_) (by decide)⟩
    refine steps_cons ?_ ?_
    · rintro b a w' ⟨bS_, cS_, T_, m4_, m9_, m10_, m11_, ha, Q_HB, Q_GX, Q_BX, Q_RS, Q_NE, Q_TB, Q_X4_, Q_X9_, Q_X10_, Q_X11_⟩ hb_ hon hoff
      refine ⟨_, rfl, fun K hK => ?_⟩
      have e17 : a.tmps[17]? = some (.int .i64 (nl : Int)) := by rw [ha]; exact putSel_on (e := (6, 17, .int .i64 (nl : Int))) 2 rfl rfl (hon 6 (by kernel_rfl)) rfl
      replace ha := Aside0.mk ha
      have HB := Aside0.mk Q_HB
      have GX := Aside0.mk Q_GX
      have BX := Aside0.mk Q_BX
      have hw_ : IntKind.i64.wrap ((nl : Int) - 1) = lf := by have h_ := HN.out.2.1; rw [IntWalk.i64_in _ (by omega)]; exact HLF.out.symm
      refine value_ (w1 := w') (v := .int .i64 lf) (by rfl) rfl ?_ ?_
      · go_simp
        (try simp only [i64_w])
        try rfl
      refine hK.out _ _ ⟨bS_, cS_, T_, m4_, m9_, m10_, m11_, (by rw [ha.out]; exact putSel_upk 3 hb_ rfl rfl rfl), Q_HB, Q_GX, Q_BX, Q_RS, Q_NE, fun h0_ => absurd ((hoff 10 (by kernel_rfl)).symm.trans h0_) (by decide), Q_X4_, fun h0_ => absurd ((hoff 9 (by kernel_rfl)).symm.trans h0_) (by decide), fun h0_ => absurd ((hoff 10 (by kernel_rfl)).symm.trans h0_) (by decide), fun h0_ => absurd ((hoff 11 (by kernel_rfl)).symm.trans h0_) (by decide)⟩
    refine steps_cons ?_ ?_
    · rintro b a w' ⟨bS_, cS_, T_, m4_, m9_, m10_, m11_, ha, Q_HB, Q_GX, Q_BX, Q_RS, Q_NE, Q_TB, Q_X4_, Q_X9_, Q_X10_, Q_X11_⟩ hb_ hon hoff
      refine ⟨_, rfl, fun K hK => ?_⟩
      have e11 : a.tmps[11]? = some (.agg #[.int .i64 gw, .int .i64 gh, Vc]) := by rw [ha]; exact putSel_on (e := (0, 11, .agg #[.int .i64 gw, .int .i64 gh, Vc])) 0 rfl rfl (hon 0 (by kernel_rfl)) rfl
      have e12 : a.tmps[12]? = some (.slice (some ⟨bL, 0, none⟩) N cL) := by rw [ha]; exact (putSel_off rfl).trans rfl
      have e15 : a.tmps[15]? = some (m4_) := by rw [ha]; exact putSel_on (e := (4, 15, m4_)) 1 rfl rfl (hon 4 (by kernel_rfl)) rfl
      rw [Q_X4_ (hon 4 (by kernel_rfl))] at e15
      have e18 : a.tmps[18]? = some (.int .i64 lf) := by rw [ha]; exact putSel_on (e := (7, 18, .int .i64 lf)) 3 rfl rfl (hon 7 (by kernel_rfl)) rfl
      have e19 : a.tmps[19]? = some (.int .i64 1073741824) := by rw [ha]; exact (putSel_off rfl).trans rfl
      replace ha := Aside0.mk ha
      have HB := Aside0.mk Q_HB
      have GX := Aside0.mk Q_GX
      have BX := Aside0.mk Q_BX
      have RS := Aside0.mk (Q_RS (hon 4 (by kernel_rfl)))
      have NE := Aside0.mk (Q_NE (hon 4 (by kernel_rfl)))
      refine value_ (w1 := w') (v := .agg #[.int .i64 gw, .int .i64 gh, Vc, .slice (some ⟨bL, 0, none⟩) N cL, .slice (some ⟨bS_, 0, none⟩) N cS_, .int .i64 lf, .string ⟨#[]⟩, .int .i64 0, .int .i64 1073741824]) (by rfl) rfl ?_ ?_
      · go_simp
        (try simp only [i64_w])
        try rfl
      refine hK.out _ _ ⟨bS_, cS_, T_, m4_, (.agg #[.int .i64 gw, .int .i64 gh, Vc, .slice (some ⟨bL, 0, none⟩) N cL, .slice (some ⟨bS_, 0, none⟩) N cS_, .int .i64 lf, .string ⟨#[]⟩, .int .i64 0, .int .i64 1073741824]), m10_, m11_, (by rw [ha.out]; exact putSel_upk 4 hb_ rfl rfl rfl), Q_HB, Q_GX, Q_BX, Q_RS, Q_NE, fun h0_ => absurd ((hoff 10 (by kernel_rfl)).symm.trans h0_) (by decide), Q_X4_, fun _ => rfl, fun h0_ => absurd ((hoff 10 (by kernel_rfl)).symm.trans h0_) (by decide), fun h0_ => absurd ((hoff 11 (by kernel_rfl)).symm.trans h0_) (by decide)⟩
    refine steps_cons ?_ ?_
    · rintro b a w' ⟨bS_, cS_, T_, m4_, m9_, m10_, m11_, ha, Q_HB, Q_GX, Q_BX, Q_RS, Q_NE, Q_TB, Q_X4_, Q_X9_, Q_X10_, Q_X11_⟩ hb_ hon hoff
      refine ⟨_, rfl, fun K hK => ?_⟩
      have e20 : a.tmps[20]? = some (m9_) := by rw [ha]; exact putSel_on (e := (9, 20, m9_)) 4 rfl rfl (hon 9 (by kernel_rfl)) rfl
      rw [Q_X9_ (hon 9 (by kernel_rfl))] at e20
      replace ha := Aside0.mk ha
      have HB := Aside0.mk Q_HB
      have GX := Aside0.mk Q_GX
      have BX := Aside0.mk Q_BX
      have RS := Aside0.mk (Q_RS (hon 4 (by kernel_rfl)))
      have NE := Aside0.mk (Q_NE (hon 4 (by kernel_rfl)))
      refine value_ (w1 := ?_) (v := ?_) (by rfl) rfl ?_ ?_
      rotate_left 2
      · go_simp
        constructor
        · rfl
        · rfl
      refine hK.out _ _ ⟨bS_, cS_, w'.heap.size, m4_, m9_, (.pointer (some ⟨w'.heap.size, 0, none⟩)), m11_, (by rw [ha.out]; exact putSel_upk 5 hb_ rfl rfl rfl), HB.out.alloc HB.out.size _, blk_alloc GX.out _, blk_alloc BX.out _, fun _ => Kd.R_below RS.out ((Below.refl _ w').alloc (Nat.le_refl _) _), Q_NE, fun _ => ⟨blk_new _ _, HB.out.size, Nat.ne_of_gt (Kd.R_lt RS.out bS_ rfl)⟩, Q_X4_, Q_X9_, fun _ => rfl, fun h0_ => absurd ((hoff 11 (by kernel_rfl)).symm.trans h0_) (by decide)⟩
    refine steps_cons ?_ ?_
    · rintro b a w' ⟨bS_, cS_, T_, m4_, m9_, m10_, m11_, ha, Q_HB, Q_GX, Q_BX, Q_RS, Q_NE, Q_TB, Q_X4_, Q_X9_, Q_X10_, Q_X11_⟩ hb_ hon hoff
      refine ⟨_, rfl, fun K hK => ?_⟩
      have e21 : a.tmps[21]? = some (m10_) := by rw [ha]; exact putSel_on (e := (10, 21, m10_)) 5 rfl rfl (hon 10 (by kernel_rfl)) rfl
      rw [Q_X10_ (hon 10 (by kernel_rfl))] at e21
      replace ha := Aside0.mk ha
      have HB := Aside0.mk Q_HB
      have GX := Aside0.mk Q_GX
      have BX := Aside0.mk Q_BX
      have RS := Aside0.mk (Q_RS (hon 4 (by kernel_rfl)))
      have NE := Aside0.mk (Q_NE (hon 4 (by kernel_rfl)))
      have TB := Aside0.mk (Q_TB (hon 10 (by kernel_rfl)))
      refine value_ (w1 := w') (v := .pointer (some ⟨T_, 0, none⟩)) (by rfl) rfl ?_ ?_
      · go_simp
        (try simp only [i64_w])
        try rfl
      refine hK.out _ _ ⟨bS_, cS_, T_, m4_, m9_, m10_, (.pointer (some ⟨T_, 0, none⟩)), (by rw [ha.out]; exact putSel_upk 6 hb_ rfl rfl rfl), Q_HB, Q_GX, Q_BX, Q_RS, Q_NE, Q_TB, Q_X4_, Q_X9_, Q_X10_, fun _ => rfl⟩
    exact steps_nil
  · rintro b a w' hall ⟨bS_, cS_, T_, m4_, m9_, m10_, m11_, ha, Q_HB, Q_GX, Q_BX, Q_RS, Q_NE, Q_TB, Q_X4_, Q_X9_, Q_X10_, Q_X11_⟩
    clear BX GX HB
    have hb0_ := hall 0 (by kernel_rfl)
    have hb4_ := hall 4 (by kernel_rfl)
    have hb6_ := hall 6 (by kernel_rfl)
    have hb7_ := hall 7 (by kernel_rfl)
    have hb9_ := hall 9 (by kernel_rfl)
    have hb10_ := hall 10 (by kernel_rfl)
    have hb11_ := hall 11 (by kernel_rfl)
    subst ha
    obtain rfl := Q_X4_ hb4_
    obtain rfl := Q_X9_ hb9_
    obtain rfl := Q_X10_ hb10_
    obtain rfl := Q_X11_ hb11_
    simp only [putSel, hb0_, hb4_, hb6_, hb7_, hb9_, hb10_, hb11_, if_true, Act.put, List.setIfInBounds_toArray, List.set_cons_zero, List.set_cons_succ]
    have HB := Aside0.mk Q_HB
    clear Q_HB
    have GX := Aside0.mk Q_GX
    clear Q_GX
    have BX := Aside0.mk Q_BX
    clear Q_BX
    have RS := Aside0.mk (Q_RS hb4_)
    clear Q_RS
    have NE := Aside0.mk (Q_NE hb4_)
    clear Q_NE
    have TB := Aside0.mk (Q_TB hb10_)
    clear Q_TB
    clear hall hb0_ hb4_ hb6_ hb7_ hb9_ hb10_ hb11_
    have HB2 := Go.Lib.hid HB.out
    obtain ⟨hlt, hw_, hlv⟩ := HIN.out
    obtain ⟨iv, hiv⟩ : ∃ iv, iv = ix s := ⟨_, rfl⟩
    rw [← hiv] at hlt hw_ hlv
    rw [i64_w, i64_w] at hw_
    have HIV := Go.Lib.hid hiv
    have HLV := Go.Lib.hid hlv
    have HLN := Go.Lib.hid hlt
    have HD := Go.Lib.hid (HDG.out w' HB.out)
    clear hiv hlv
    have hx0 : (0 : Int) ≤ (iv : Int) := by omega
    have hx1 : (iv : Int) < (N : Int) := by omega
    clear hlt
    have lv_ : w'.cell? ⟨bL, iv, none⟩ = some (.int .u8 (lvl s)) := pw_cell_below HB.out HLV.out
    have g0_ : w'.cell? ⟨aB, 0, none⟩ = some (.int .i64 gw) := blk_cell GX.out 0
    have s0_ : w'.cell? ⟨bB, 0, none⟩ = some (.int .i64 s.x) := blk_cell BX.out 0
    have s1_ : w'.cell? ⟨bB, 1, none⟩ = some (.int .i64 s.y) := blk_cell BX.out 1
    go_upto_region 3 with fail
    rw [hw_]
    go_wp2_with fail
    refine HD.out.mono ?_
    rintro e' w2 ⟨rfl, hb⟩
    have n_HB := Go.Lib.hid (below_then HB.out HB.out.size hb)
    have n_GX := Go.Lib.hid (blk_below GX.out hb)
    have n_BX := Go.Lib.hid (blk_below BX.out hb)
    have n_RS := Go.Lib.hid (Kd.R_below RS.out hb)
    have n_TB := Go.Lib.hid (And.intro (blk_below TB.out.1 hb) TB.out.2)
    clear HB GX BX RS TB hb
    have HB := n_HB
    have GX := n_GX
    have BX := n_BX
    have RS := n_RS
    have TB := n_TB
    clear n_HB n_GX n_BX n_RS n_TB
    clear lv_ g0_ s0_ s1_ hw_ HD
    cases lb with
    | false =>
      have hz : rr = 0 := by rw [HRR.out, if_neg (by simp)]
      go_wp2_with fail
      go_ret
      refine ⟨T_, bS_, cS_, ⟨#[]⟩, lf, rfl, HB.out, ?_⟩
      rw [hz]
      exact TB.out.1
    | true =>
      have HD := Go.Lib.hid (HMT.out w2 HB.out)
      have g0_ : w2.cell? ⟨aB, 0, none⟩ = some (.int .i64 gw) := blk_cell GX.out 0
      have g1_ : w2.cell? ⟨aB, 1, none⟩ = some (.int .i64 gh) := blk_cell GX.out 1
      have g2_ : w2.cell? ⟨aB, 2, none⟩ = some Vc := blk_cell GX.out 2
      have s0_ : w2.cell? ⟨bB, 0, none⟩ = some (.int .i64 s.x) := blk_cell BX.out 0
      have s1_ : w2.cell? ⟨bB, 1, none⟩ = some (.int .i64 s.y) := blk_cell BX.out 1
      have s2_ : w2.cell? ⟨bB, 2, none⟩ = some (.int .i64 s.d.t) := blk_cell BX.out 2
      have s3_ : w2.cell? ⟨bB, 3, none⟩ = some (.int .i64 s.d.n) := blk_cell BX.out 3
      have s4_ : w2.cell? ⟨bB, 4, none⟩ = some (.int .i64 s.d.e) := blk_cell BX.out 4
      have s5_ : w2.cell? ⟨bB, 5, none⟩ = some (.int .i64 s.d.s) := blk_cell BX.out 5
      have s6_ : w2.cell? ⟨bB, 6, none⟩ = some (.int .i64 s.d.w) := blk_cell BX.out 6
      have s7_ : w2.cell? ⟨bB, 7, none⟩ = some (.int .i64 s.d.b) := blk_cell BX.out 7
      go_wp2_with fail
      refine HD.out.mono ?_
      rintro e' w3 ⟨rfl, hb⟩
      have n_HB := Go.Lib.hid (below_then HB.out HB.out.size hb)
      have n_GX := Go.Lib.hid (blk_below GX.out hb)
      have n_BX := Go.Lib.hid (blk_below BX.out hb)
      have n_RS := Go.Lib.hid (Kd.R_below RS.out hb)
      have n_TB := Go.Lib.hid (And.intro (blk_below TB.out.1 hb) TB.out.2)
      clear HB GX BX RS TB hb
      have HB := n_HB
      have GX := n_GX
      have BX := n_BX
      have RS := n_RS
      have TB := n_TB
      clear n_HB n_GX n_BX n_RS n_TB
      clear g0_ g1_ g2_ s0_ s1_ s2_ s3_ s4_ s5_ s6_ s7_ HD
      cases mt with
      | false =>
        have hz : rr = 0 := by rw [HRR.out, if_neg (by simp)]
        go_wp2_with fail
        go_ret
        refine ⟨T_, bS_, cS_, ⟨#[]⟩, lf, rfl, HB.out, ?_⟩
        rw [hz]
        exact TB.out.1
      | true =>
        have l4_ : w3.cell? ⟨T_, 4, none⟩ = some (.slice (some ⟨bS_, 0, none⟩) N cS_) := blk_cell TB.out.1 4
        obtain ⟨p1_, p2_⟩ := sc_cell RS.out iv _ (row_at (fun _ => false) HLN.out)
        have hnl0 := HN.out.2.2 HLB.out.symm
        obtain ⟨m, hm⟩ : ∃ m, nl = m + 1 := ⟨nl - 1, by omega⟩
        have HM := Go.Lib.hid hm
        have hlf : lf = (m : Int) := by rw [HLF.out, hm]; omega
        have h11 : (4 ^ m : Nat) ≤ 4 ^ 11 := Nat.pow_le_pow_right (by decide) (by have h_ := HN.out.2.1; omega)
        have h12 : (4 ^ 11 : Nat) = 4194304 := by decide
        have HK4 := Go.Lib.hid (show (0 : Int) ≤ 0 ∧ (0 : Int) + ((4 ^ m : Nat) : Int) ≤ 1073741823 from ⟨Int.le_refl _, by omega⟩)
        have HRB := Go.Lib.hid (show rr = B can moved lab cellOf m s [cellOf s] by rw [HRR.out, if_pos (by rfl), hm, Nat.add_sub_cancel])
        clear hm h11 h12 hnl0
        go_upto_region 5 with fail
        have n_HB := Go.Lib.hid (HB.out.setCell (p := ⟨bS_, iv, none⟩) NE.out.1 (.bool true))
        have n_RS := Go.Lib.hid (rb_put RS.out iv true).1
        have n_TB := Go.Lib.hid (blk_far (p := ⟨bS_, iv, none⟩) TB.out.1 TB.out.2.2 (.bool true))
        have n_BX := Go.Lib.hid (blk_far (p := ⟨bS_, iv, none⟩) BX.out (Ne.symm NE.out.2) (.bool true))
        rw [hlf] at n_TB
        clear HB RS GX BX l4_ p1_ p2_ hlf
        generalize World.setCell _ _ _ = w6 at n_HB n_RS n_TB n_BX ⊢
        have HCL := Go.Lib.hid (HLK.out T_ bS_ cS_ TB.out.2.1 NE.out.1 TB.out.2.2 m s [cellOf s] (RowB.put (fun _ => false) iv true) ⟨#[]⟩ ⟨#[]⟩ 0 w6 (by have h_ := HN.out.2.1; have h2_ := HM.out; omega) (HGS.out.2 trivial) n_HB.out (by rw [HIV.out]; exact sn_put (seen := []) HIX.out (fun u _ => rfl) HGS.out.1) n_RS.out n_TB.out HK4.out (by show 0 + m ≤ 100; have h_ := HN.out.2.1; have h2_ := HM.out; omega))
        rw [← HRB.out] at HCL
        have BX := n_BX
        have s0_ : w6.cell? ⟨bB, 0, none⟩ = some (.int .i64 s.x) := blk_cell BX.out 0
        have s1_ : w6.cell? ⟨bB, 1, none⟩ = some (.int .i64 s.y) := blk_cell BX.out 1
        have s2_ : w6.cell? ⟨bB, 2, none⟩ = some (.int .i64 s.d.t) := blk_cell BX.out 2
        have s3_ : w6.cell? ⟨bB, 3, none⟩ = some (.int .i64 s.d.n) := blk_cell BX.out 3
        have s4_ : w6.cell? ⟨bB, 4, none⟩ = some (.int .i64 s.d.e) := blk_cell BX.out 4
        have s5_ : w6.cell? ⟨bB, 5, none⟩ = some (.int .i64 s.d.s) := blk_cell BX.out 5
        have s6_ : w6.cell? ⟨bB, 6, none⟩ = some (.int .i64 s.d.w) := blk_cell BX.out 6
        have s7_ : w6.cell? ⟨bB, 7, none⟩ = some (.int .i64 s.d.b) := blk_cell BX.out 7
        go_wp2_with fail
        refine HCL.out.mono ?_
        rintro e' w7 ⟨f_, rfl, hkp, hrb, hcc⟩
        rw [Int.zero_add] at hcc
        have HF := Go.Lib.hid hcc
        have HBF := Go.Lib.hid (kp_below n_HB.out hkp TB.out.2.1 NE.out.1)
        clear hkp hrb hcc s0_ s1_ s2_ s3_ s4_ s5_ s6_ s7_
        go_wp2_with fail
        go_ret
        exact ⟨T_, bS_, cS_, f_, m, rfl, HBF.out, HF.out⟩
end Go.Proofs.YtolopkjpodnmkaaDoor.FromS
