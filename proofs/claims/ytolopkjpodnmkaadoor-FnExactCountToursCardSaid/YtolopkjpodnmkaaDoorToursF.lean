/- The program's toursFrom, walked. Conditions: at most twelve cells with labels. -/
import Derived.Test.YtolopkjpodnmkaaDoorToursI
namespace Go.Proofs.YtolopkjpodnmkaaDoor.ToursF
open Go.RowKit Go.Proofs.YtolopkjpodnmkaaDoorW.PrintWords Go.Proofs.YtolopkjpodnmkaaDoorW.PrintLast Go.Proofs.YtolopkjpodnmkaaDoor.Board Go.Proofs.YtolopkjpodnmkaaDoor.BaseM Go.Proofs.YtolopkjpodnmkaaDoor.LabG Go.Proofs.YtolopkjpodnmkaaDoor.MapT Go.Proofs.YtolopkjpodnmkaaDoor.DeferB Go.Proofs.YtolopkjpodnmkaaDoor.ToursI
open Go.Proofs.YtolopkjpodnmkaaDoor.Reach (St)
open Go.Proofs.YtolopkjpodnmkaaDoor.Tour (A)
set_option linter.unusedVariables false
set_option linter.unusedSimpArgs false

set_option maxHeartbeats 4000000 in
set_option maxRecDepth 100000 in
theorem tours_none (lv : St → Int) (A0 : Option Addr) (gn gc C M : Nat) (word : ByteArray) (lf : Int) (s : St) (W : World)
    (hlab : ∀ W', Below W.heap.size W W' → Calls Tryd.prog 28 #[.slice A0 gn gc, .int .i64 s.x, .int .i64 s.y] W' fun e w' => e = .returned (.tuple #[.int .i64 (lv s), .bool false]) ∧ Below W'.heap.size W' w') :
    Calls Tryd.prog 20 #[.slice A0 gn gc, .agg (st8 s), .string word, .map (some M), .int .i64 lf, .func (.func 12) #[] #[.pointer (some ⟨C, 0, none⟩)]] W fun e W' => e = .returned (.bool true) ∧ Below W.heap.size W W' := by
  have hb1 : Below W.heap.size W (W.alloc (.cells (st8 s) 30)) := (Below.refl _ W).alloc (Nat.le_refl _) _
  have HLB := Go.Lib.hid (hlab _ hb1)
  have HB1 := Go.Lib.hid hb1
  clear hlab hb1
  refine calls_of_wp_B Tryd.func20 rfl ?_
  simp only [Tryd.ntmps20, List.size_toArray, List.length_cons, List.length_nil, Nat.reduceAdd, Nat.reduceSub, Array.replicate_succ, Array.replicate_zero, List.push_toArray, List.append_toArray, List.nil_append, List.cons_append]
  go_wp2_with fail
  refine HLB.out.mono ?_
  rintro e' w1 ⟨rfl, hb⟩
  have HX := Go.Lib.hid (below_then HB1.out HB1.out.size hb)
  clear hb HLB HB1
  go_wp2_with fail
  exact door (results_tmp rfl _ _ _) ⟨rfl, HX.out⟩
def trf.T1 : Bool × List (List Nat × List Nat) := (true, [([], []), ([], []), ([], []), ([], []), ([3], [3]), ([4], [4]), ([], []), ([0, 1, 2, 5, 6, 4], [0, 1, 2, 5, 6])])
def trf.B1 : List Nat := [0, 0, 0, 0, 8, 24, 0, 127]
theorem trf.tab1 : rtab .any (opsOf Tryd.f11 1) = trf.T1 := by kernel_rfl
theorem trf.bits1 : waitsOk trf.T1.2 trf.B1 = true := by kernel_rfl
theorem from_walk (A0 : Option Addr) (gn gc C nl cnt : Nat) (s : St) (w5 W : World) (hW5 : Below w5.heap.size w5 W) (hC : w5.heap.size ≤ C) (hCC : CC W C 0)
    (hcells : ∀ W', Below w5.heap.size w5 W' → Calls Tryd.prog 19 #[.slice A0 gn gc] W' fun e w' => ∃ (al : Option Addr) (cl : Nat), e = .returned (.slice al nl cl) ∧ Below W'.heap.size W' w')
    (htours : ∀ W' M, Below w5.heap.size w5 W' → w5.heap.size ≤ M → C ≠ M → holdsT W' enc2 M [] → CC W' C 0 →
      Calls Tryd.prog 20 #[.slice A0 gn gc, .agg (st8 s), .string ⟨#[]⟩, .map (some M), .int .i64 (nl : Int), .func (.func 12) #[] #[.pointer (some ⟨C, 0, none⟩)]] W' fun e w' => e = .returned (.bool true) ∧ Below w5.heap.size w5 w' ∧ CC w' C (cnt : Int)) :
    Calls Tryd.prog 11 #[.slice A0 gn gc, .agg (st8 s), .func (.func 12) #[] #[.pointer (some ⟨C, 0, none⟩)]] W fun e w' => e = .returned (.tuple #[]) ∧ Below w5.heap.size w5 w' ∧ CC w' C (cnt : Int) := by
  have HCELLS := Go.Lib.hid hcells
  have HT := Go.Lib.hid htours
  have hb1 : Below W.heap.size W (W.alloc (.cells (st8 s) 30)) := (Below.refl _ W).alloc (Nat.le_refl _) _
  have HB := Go.Lib.hid (below_then hW5 hW5.size hb1)
  have CN := Go.Lib.hid (show CC (W.alloc (.cells (st8 s) 30)) C 0 from blk_below hCC hb1)
  have BX := Go.Lib.hid (And.intro (blk_new W (.cells (st8 s) 30)) hW5.size)
  have HC := Go.Lib.hid hC
  have MT := Go.Lib.hid True.intro
  clear hcells htours hW5 hC hCC hb1
  go_enter Tryd.func11, Tryd.ntmps11
  go_upto_region 1 with fail
  obtain ⟨sB, hsB⟩ : ∃ sB, sB = W.heap.size := ⟨_, rfl⟩
  rw [← hsB] at BX ⊢
  clear hsB
  generalize World.alloc _ _ = w1 at HB CN BX ⊢
  refine start_ (n := 8) (S := fun w' => True) (ds := []) #[false, false, false, false, false, false, false, false] (by kernel_rfl) rfl rfl trivial (fun hHeld => ?_)
  refine with_tabW trf.tab1 trf.bits1 (fun HT_ HW_ => ?_)
  have n_HB := Go.Lib.hid (below_drew HB.out)
  have n_BX := Go.Lib.hid (And.intro (blk_drew BX.out.1) BX.out.2)
  have n_CN := Go.Lib.hid (blk_drew CN.out)
  clear HB BX CN
  have HB := n_HB
  have BX := n_BX
  have CN := n_CN
  clear n_HB n_BX n_CN
  generalize World.drew _ = w1_ at HB BX CN hHeld ⊢
  refine pure_ (i := 0) (N := some 6) (v := ?_) (a' := ?_) #[true, false, false, false, false, false, false, false] rfl rfl (any_of HT_.out (by kernel_rfl)) (fun _ _ _ h => h) (Or.inl ⟨by rfl, ?_⟩) ?_ ?_
  rotate_left
  · intro w'
    go_simp
    with_reducible rfl
  rotate_left
  · simp only [Act.put, List.setIfInBounds_toArray, List.set_cons_zero, List.set_cons_succ, i64_w, i32_w]
    rfl
  refine pure_ (i := 3) (N := some 9) (v := ?_) (a' := ?_) #[true, false, false, true, false, false, false, false] rfl rfl (any_of HT_.out (by kernel_rfl)) (fun _ _ _ h => h) (Or.inl ⟨by rfl, ?_⟩) ?_ ?_
  rotate_left
  · intro w'
    go_simp
    with_reducible rfl
  rotate_left
  · simp only [Act.put, List.setIfInBounds_toArray, List.set_cons_zero, List.set_cons_succ, i64_w, i32_w]
    rfl
  refine pure_ (i := 6) (N := some 12) (v := ?_) (a' := ?_) #[true, false, false, true, false, false, true, false] rfl rfl (any_of HT_.out (by kernel_rfl)) (fun _ _ _ h => h) (Or.inl ⟨by rfl, ?_⟩) ?_ ?_
  rotate_left
  · intro w'
    go_simp
    with_reducible rfl
  rotate_left
  · simp only [Act.put, List.setIfInBounds_toArray, List.set_cons_zero, List.set_cons_succ, i64_w, i32_w]
    rfl
  refine inv_at [1, 2, 4, 5, 7] (fun a0_ b a w' => ∃ (gm_ : Nat) (al_ : Option Addr) (cl_ : Nat) (m2_ : Value) (m4_ : Value), a = putSel a0_ b [(1, 7, .agg #[.int .i64 s.x, .int .i64 s.y, .int .i64 s.d.t, .int .i64 s.d.n, .int .i64 s.d.e, .int .i64 s.d.s, .int .i64 s.d.w, .int .i64 s.d.b]), (2, 8, m2_), (4, 10, m4_), (5, 11, .int .i64 (nl : Int)), (7, 13, .bool true)] ∧ (Below w5.heap.size w5 w') ∧ (b 7 = false → w'.heap[sB]? = some (.cells (st8 s) 30 (0, 0)) ∧ w5.heap.size ≤ sB) ∧ (b 7 = false → CC w' C 0) ∧ (b 2 = true → b 7 = false → holdsT w' enc2 gm_ [] ∧ w5.heap.size ≤ gm_ ∧ C ≠ gm_) ∧ (b 7 = true → CC w' C (cnt : Int)) ∧ (b 2 = true → (m2_ : Value) = .map (some gm_)) ∧ (b 4 = true → (m4_ : Value) = .slice al_ nl cl_)) HT_.out HW_.out (by kernel_rfl) (by kernel_rfl) ?_ ?_ ?_
  · exact ⟨0, none, 0, .bool false, .bool false, by simp only [putSel, Bool.false_eq_true, if_false], HB.out, fun _ => BX.out, fun _ => CN.out, fun h_ => absurd h_ (by decide), fun h_ => absurd h_ (by decide), fun h_ => absurd h_ (by decide), fun h_ => absurd h_ (by decide)⟩
  · skip
    clear BX CN HB
    refine steps_cons ?_ ?_
    · rintro b a w' ⟨gm_, al_, cl_, m2_, m4_, ha, Q_HB, Q_BX, Q_CN, Q_MT, Q_CD, Q_X2_, Q_X4_⟩ hb_ hon hoff
      refine ⟨_, rfl, fun K hK => ?_⟩
      have e4 : a.tmps[4]? = some (.pointer (some ⟨sB, 0, none⟩)) := by rw [ha]; exact (putSel_off rfl).trans rfl
      replace ha := Aside0.mk ha
      have HB := Aside0.mk Q_HB
      have BX := Aside0.mk (Q_BX (hoff 7 (by kernel_rfl)))
      have CN := Aside0.mk (Q_CN (hoff 7 (by kernel_rfl)))
      have o0 : w'.cell? ⟨sB, 0, none⟩ = some (.int .i64 s.x) := blk_cell BX.out.1 0
      have o1 : w'.cell? ⟨sB, 1, none⟩ = some (.int .i64 s.y) := blk_cell BX.out.1 1
      have o2 : w'.cell? ⟨sB, 2, none⟩ = some (.int .i64 s.d.t) := blk_cell BX.out.1 2
      have o3 : w'.cell? ⟨sB, 3, none⟩ = some (.int .i64 s.d.n) := blk_cell BX.out.1 3
      have o4 : w'.cell? ⟨sB, 4, none⟩ = some (.int .i64 s.d.e) := blk_cell BX.out.1 4
      have o5 : w'.cell? ⟨sB, 5, none⟩ = some (.int .i64 s.d.s) := blk_cell BX.out.1 5
      have o6 : w'.cell? ⟨sB, 6, none⟩ = some (.int .i64 s.d.w) := blk_cell BX.out.1 6
      have o7 : w'.cell? ⟨sB, 7, none⟩ = some (.int .i64 s.d.b) := blk_cell BX.out.1 7
      refine value_ (w1 := w') (v := .agg #[.int .i64 s.x, .int .i64 s.y, .int .i64 s.d.t, .int .i64 s.d.n, .int .i64 s.d.e, .int .i64 s.d.s, .int .i64 s.d.w, .int .i64 s.d.b]) (by rfl) rfl ?_ ?_
      · go_simp
        (try simp only [i64_w])
        try rfl
      refine hK.out _ _ ⟨gm_, al_, cl_, m2_, m4_, (by rw [ha.out]; exact putSel_upk 0 hb_ rfl rfl rfl), Q_HB, Q_BX, Q_CN, Q_MT, fun h0_ => absurd ((hoff 7 (by kernel_rfl)).symm.trans h0_) (by decide), Q_X2_, Q_X4_⟩
    refine steps_cons ?_ ?_
    · rintro b a w' ⟨gm_, al_, cl_, m2_, m4_, ha, Q_HB, Q_BX, Q_CN, Q_MT, Q_CD, Q_X2_, Q_X4_⟩ hb_ hon hoff
      refine ⟨_, rfl, fun K hK => ?_⟩
      replace ha := Aside0.mk ha
      have HB := Aside0.mk Q_HB
      have BX := Aside0.mk (Q_BX (hoff 7 (by kernel_rfl)))
      have CN := Aside0.mk (Q_CN (hoff 7 (by kernel_rfl)))
      have hmm_ := @run_makeMap Tryd.prog
      refine value_ (w1 := ?_) (v := ?_) (by rfl) rfl ?_ ?_
      rotate_left 2
      · go_simp
        constructor
        · rfl
        · rfl
      refine hK.out _ _ ⟨w'.heap.size, al_, cl_, (.map (some w'.heap.size)), m4_, (by rw [ha.out]; exact putSel_upk 1 hb_ rfl rfl rfl), HB.out.alloc HB.out.size _, fun _ => ⟨blk_alloc BX.out.1 _, BX.out.2⟩, fun _ => blk_alloc CN.out _, fun _ _ => ⟨⟨[], 0, blk_new w' _, rfl⟩, HB.out.size, Nat.ne_of_lt (blk_lt CN.out)⟩, fun h0_ => absurd ((hoff 7 (by kernel_rfl)).symm.trans h0_) (by decide), fun _ => rfl, Q_X4_⟩
    refine steps_cons ?_ ?_
    · rintro b a w' ⟨gm_, al_, cl_, m2_, m4_, ha, Q_HB, Q_BX, Q_CN, Q_MT, Q_CD, Q_X2_, Q_X4_⟩ hb_ hon hoff
      refine ⟨_, rfl, fun K hK => ?_⟩
      have e9 : a.tmps[9]? = some (.slice A0 gn gc) := by rw [ha]; exact (putSel_off rfl).trans rfl
      replace ha := Aside0.mk ha
      have HB := Aside0.mk Q_HB
      have BX := Aside0.mk (Q_BX (hoff 7 (by kernel_rfl)))
      have CN := Aside0.mk (Q_CN (hoff 7 (by kernel_rfl)))
      refine call_ 19 #[.slice A0 gn gc] (by rfl) rfl ?_ ?_
      · go_simp
        (try rfl)
      with_reducible refine (HCELLS.out w' HB.out).mono ?_
      rintro e' w1 ⟨al1, cl1, rfl, hb⟩
      refine ⟨_, rfl, ?_⟩
      refine hK.out _ _ ⟨gm_, al1, cl1, m2_, (.slice al1 nl cl1), (by rw [ha.out]; exact putSel_upk 2 hb_ rfl rfl rfl), below_then HB.out HB.out.size hb, fun _ => ⟨blk_below BX.out.1 hb, BX.out.2⟩, fun _ => blk_below CN.out hb, fun h0_ h1_ => ⟨holdsT_below (Q_MT h0_ h1_).1 hb, (Q_MT h0_ h1_).2⟩, fun h0_ => absurd ((hoff 7 (by kernel_rfl)).symm.trans h0_) (by decide), Q_X2_, fun _ => rfl⟩
    refine steps_cons ?_ ?_
    · rintro b a w' ⟨gm_, al_, cl_, m2_, m4_, ha, Q_HB, Q_BX, Q_CN, Q_MT, Q_CD, Q_X2_, Q_X4_⟩ hb_ hon hoff
      refine ⟨_, rfl, fun K hK => ?_⟩
      have e10 : a.tmps[10]? = some (m4_) := by rw [ha]; exact putSel_on (e := (4, 10, m4_)) 2 rfl rfl (hon 4 (by kernel_rfl)) rfl
      rw [Q_X4_ (hon 4 (by kernel_rfl))] at e10
      replace ha := Aside0.mk ha
      have HB := Aside0.mk Q_HB
      have BX := Aside0.mk (Q_BX (hoff 7 (by kernel_rfl)))
      have CN := Aside0.mk (Q_CN (hoff 7 (by kernel_rfl)))
      refine value_ (w1 := w') (v := .int .i64 (nl : Int)) (by rfl) rfl ?_ ?_
      · go_simp
        (try simp only [i64_w])
        try rfl
      refine hK.out _ _ ⟨gm_, al_, cl_, m2_, m4_, (by rw [ha.out]; exact putSel_upk 3 hb_ rfl rfl rfl), Q_HB, Q_BX, Q_CN, Q_MT, fun h0_ => absurd ((hoff 7 (by kernel_rfl)).symm.trans h0_) (by decide), Q_X2_, Q_X4_⟩
    refine steps_cons ?_ ?_
    · rintro b a w' ⟨gm_, al_, cl_, m2_, m4_, ha, Q_HB, Q_BX, Q_CN, Q_MT, Q_CD, Q_X2_, Q_X4_⟩ hb_ hon hoff
      refine ⟨_, rfl, fun K hK => ?_⟩
      have e6 : a.tmps[6]? = some (.slice A0 gn gc) := by rw [ha]; exact (putSel_off rfl).trans rfl
      have e7 : a.tmps[7]? = some (.agg #[.int .i64 s.x, .int .i64 s.y, .int .i64 s.d.t, .int .i64 s.d.n, .int .i64 s.d.e, .int .i64 s.d.s, .int .i64 s.d.w, .int .i64 s.d.b]) := by rw [ha]; exact putSel_on (e := (1, 7, .agg #[.int .i64 s.x, .int .i64 s.y, .int .i64 s.d.t, .int .i64 s.d.n, .int .i64 s.d.e, .int .i64 s.d.s, .int .i64 s.d.w, .int .i64 s.d.b])) 0 rfl rfl (hon 1 (by kernel_rfl)) rfl
      have e8 : a.tmps[8]? = some (m2_) := by rw [ha]; exact putSel_on (e := (2, 8, m2_)) 1 rfl rfl (hon 2 (by kernel_rfl)) rfl
      rw [Q_X2_ (hon 2 (by kernel_rfl))] at e8
      have e11 : a.tmps[11]? = some (.int .i64 (nl : Int)) := by rw [ha]; exact putSel_on (e := (5, 11, .int .i64 (nl : Int))) 3 rfl rfl (hon 5 (by kernel_rfl)) rfl
      have e12 : a.tmps[12]? = some (.func (.func 12) #[] #[.pointer (some ⟨C, 0, none⟩)]) := by rw [ha]; exact (putSel_off rfl).trans rfl
      replace ha := Aside0.mk ha
      have HB := Aside0.mk Q_HB
      have BX := Aside0.mk (Q_BX hb_)
      have CN := Aside0.mk (Q_CN hb_)
      have MT := Aside0.mk (Q_MT (hon 2 (by kernel_rfl)) hb_)
      refine call_ 20 #[.slice A0 gn gc, .agg #[.int .i64 s.x, .int .i64 s.y, .int .i64 s.d.t, .int .i64 s.d.n, .int .i64 s.d.e, .int .i64 s.d.s, .int .i64 s.d.w, .int .i64 s.d.b], .string ⟨#[]⟩, .map (some gm_), .int .i64 (nl : Int), .func (.func 12) #[] #[.pointer (some ⟨C, 0, none⟩)]] (by rfl) rfl ?_ ?_
      · go_simp
        (try rfl)
      with_reducible refine (HT.out w' gm_ HB.out MT.out.2.1 MT.out.2.2 MT.out.1 CN.out).mono ?_
      rintro e' w1 ⟨rfl, hb2, hcc⟩
      refine ⟨_, rfl, ?_⟩
      refine hK.out _ _ ⟨gm_, al_, cl_, m2_, m4_, (by rw [ha.out]; exact putSel_upk 4 hb_ rfl rfl rfl), hb2, fun h0_ => absurd ((up_self b 7).symm.trans h0_) (by decide), fun h0_ => absurd ((up_self b 7).symm.trans h0_) (by decide), fun _ h1_ => absurd ((up_self b 7).symm.trans h1_) (by decide), fun _ => hcc, Q_X2_, Q_X4_⟩
    exact steps_nil
  · rintro b a w' hall ⟨gm_, al_, cl_, m2_, m4_, ha, Q_HB, Q_BX, Q_CN, Q_MT, Q_CD, Q_X2_, Q_X4_⟩
    clear BX CN HB
    have hb1_ := hall 1 (by kernel_rfl)
    have hb2_ := hall 2 (by kernel_rfl)
    have hb4_ := hall 4 (by kernel_rfl)
    have hb5_ := hall 5 (by kernel_rfl)
    have hb7_ := hall 7 (by kernel_rfl)
    subst ha
    obtain rfl := Q_X2_ hb2_
    obtain rfl := Q_X4_ hb4_
    simp only [putSel, hb1_, hb2_, hb4_, hb5_, hb7_, if_true, Act.put, List.setIfInBounds_toArray, List.set_cons_zero, List.set_cons_succ]
    have HB := Aside0.mk Q_HB
    clear Q_HB
    clear Q_BX
    clear Q_CN
    clear Q_MT
    have CD := Aside0.mk (Q_CD hb7_)
    clear Q_CD
    clear hall hb1_ hb2_ hb4_ hb5_ hb7_
    go_wp2_with fail
    go_end0
    exact ⟨rfl, HB.out, CD.out⟩
end Go.Proofs.YtolopkjpodnmkaaDoor.ToursF
