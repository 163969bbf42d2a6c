/- The program's LayersOf, walked. Conditions: a text of no more than 2^20 bytes. -/
import Derived.Test.YthfeiklaoljdnaaDoorTo
import Derived.Test.YthfeiklaoljdnaaDoorIntR
import Derived.Carry
namespace Go.Proofs.YthfeiklaoljdnaaDoor.LayersR
open Go.Lib (hid)
open Go.RowKit Go.Proofs.YthfeiklaoljdnaaDoorW.PrintWords Go.Proofs.YthfeiklaoljdnaaDoorW.PrintLast Go.Proofs.YthfeiklaoljdnaaDoor.Board Go.Proofs.YthfeiklaoljdnaaDoor.BaseR Go.Proofs.YthfeiklaoljdnaaDoor.ReachR Go.Proofs.YthfeiklaoljdnaaDoor.Search Go.Proofs.YthfeiklaoljdnaaDoor.On Go.Proofs.YthfeiklaoljdnaaDoor.IntR
open Go.Proofs.YthfeiklaoljdnaaDoor.Reach (St)
set_option linter.unusedVariables false
set_option linter.unusedSimpArgs false

theorem below_none {w w1 : World} (h : w.grownBy w1 none) : Below w.heap.size w w1 := ⟨h.os, h.tape, h.output, h.size, fun k hk => h.block k hk (by simp)⟩
def cnt (fs : List Nat) (k : Nat) : Nat := (fs.filter (· == k)).length
def lay (m : Nat) (fs : List Nat) : List Int := (List.range (m + 1)).map fun k => (cnt fs k : Int)
theorem lay_length (m : Nat) (fs : List Nat) : (lay m fs).length = m + 1 := by
 unfold lay
 rw [List.length_map, List.length_range]
theorem lay_nil (m : Nat) : lay m [] = List.replicate (m + 1) 0 := by
 apply List.ext_getElem
 ·rw [lay_length, List.length_replicate]
 ·intro k h1 h2
  simp [lay, cnt]
theorem lay_at (m : Nat) (fs : List Nat) (k : Nat) (hk : k ≤ m) : (lay m fs)[k]? = some (cnt fs k : Int) := by
 unfold lay
 rw [List.getElem?_map, List.getElem?_range (by omega)]
 rfl
theorem cnt_snoc (fs : List Nat) (f k : Nat) : cnt (fs ++ [f]) k = cnt fs k + if f = k then 1 else 0 := by
 unfold cnt
 rw [List.filter_append, List.length_append]
 by_cases h : f = k
 ·simp [h]
 ·simp [h]
theorem lay_set (m : Nat) (fs : List Nat) (f : Nat) (hf : f ≤ m) : (lay m fs).set f ((cnt fs f : Int) + 1) = lay m (fs ++ [f]) := by
 apply List.ext_getElem?
 intro k
 rw [List.getElem?_set]
 by_cases hk : k ≤ m
 ·rw [lay_at m _ k hk, lay_at m _ k hk, cnt_snoc]
  by_cases h : f = k
  ·subst h
   rw [if_pos rfl, if_pos (by rw [lay_length]; omega), if_pos rfl]
   rfl
  ·rw [if_neg h, if_neg h]
   rfl
 ·rw [List.getElem?_eq_none (by rw [lay_length]; omega), List.getElem?_eq_none (by rw [lay_length]; omega), if_neg (by omega)]
theorem cnt_le (fs : List Nat) (k : Nat) : cnt fs k ≤ fs.length := List.length_filter_le _ _
def fars (L : Bfs.Nodes St) : List Nat := L.map fun x => x.2.length
def lastFar (L : Bfs.Nodes St) : Nat := (fars L).getLastD 0
def layersF (s : ByteArray) (t : St) : List Int := if askB s t = true then lay (lastFar (found (fl s) t)) (fars (found (fl s) t)) else []
def rla.T4 : Bool × List (List Nat × List Nat) := (true, [([], []), ([0], [0]), ([1], [1]), ([2], [2]), ([], []), ([4], [4]), ([5], [5]), ([6], [6]), ([7], [7]), ([8], [8]), ([3, 9], [3, 9]), ([10], [10]), ([11], [11]), ([12, 12], [12]), ([13, 0, 1, 2, 3, 4, 5, 6, 7, 8, 9, 10, 11, 12, 13], [13])])
def rla.B4 : List Nat := [0, 1, 3, 7, 0, 16, 48, 112, 240, 496, 1023, 2047, 4095, 8191, 16383]
theorem rla.tab4 : rtab .any (opsOf Tryd.f21 4) = rla.T4 := by kernel_rfl
theorem rla.bits4 : waitsOk rla.T4.2 rla.B4 = true := by kernel_rfl
set_option maxHeartbeats 4000000 in
set_option maxRecDepth 100000 in
theorem layers_walk (s : ByteArray) (hs : s.size ≤ 1048576) (t : St) (w : World) : Calls Tryd.prog 21 #[.string s, .agg (st8 t)] w fun e w' =>
  ∃ v0_ : Value, e = .returned (.tuple #[v0_, .bool (askB s t)]) ∧ Kd.R (Kd.int .i64) 3 w' w.heap.size (fun _ => True) v0_ (layersF s t) ∧ Below w.heap.size w w' := by
 unfold layersF
 cases ha : askB s t with
 | false =>
  have HC := hid (fun W => on_no s hs t ha W)
  rw [if_neg (by decide)]
  clear ha
  go_enter Tryd.func21, Tryd.ntmps21
  go_wp2_with fail
  refine (HC.out _).mono ?_
  rintro e' w1 ⟨rfl, hb⟩
  have HB := hid (below_then ((Below.refl _ w).alloc (Nat.le_refl _) (.cells (st8 t) 30)) (by simp) hb)
  clear hb
  go_wp2_with fail
  go_ret2
  exact ⟨_, rfl, ⟨fun _ h => by simp [Value.ownBlock] at h, [], ⟨by simp, .inl ⟨rfl, rfl⟩⟩, ⟨by simp, fun j p hj => by simp at hj⟩⟩, HB.out⟩
 | true =>
  obtain ⟨hi, hg⟩ := ask_iff.1 ha
  have HC := hid (fun W => on_yes s hs t ha W)
  have hd := found_done (box hi) hg
  have hlen := found_length (box hi) hg
  have hpos := found_pos (box hi) hg
  rw [if_pos rfl]
  clear ha hi hg
  obtain ⟨L, hL⟩ : ∃ L, L = found (fl s) t := ⟨_, rfl⟩
  have hL2 : found (floorB s.data.toList) t = L := hL.symm
  rw [hL2] at hd hlen hpos
  rw [← hL] at HC ⊢
  clear hL hL2
  obtain ⟨lst, hlst⟩ : ∃ lst, L.length = lst + 1 := ⟨L.length - 1, by omega⟩
  obtain ⟨⟨ul, wl⟩, hxl⟩ : ∃ x, L[lst]? = some x := ⟨_, List.getElem?_eq_getElem (by omega)⟩
  obtain ⟨m, hm⟩ : ∃ m, m = lastFar L := ⟨_, rfl⟩
  have hmw : m = wl.length := by
   rw [hm, lastFar, List.getLastD_eq_getLast?, List.getLast?_eq_getElem?, fars, List.length_map, hlst, Nat.add_sub_cancel, List.getElem?_map, hxl]
   rfl
  have hms := word_short hd lst _ hxl
  obtain ⟨n, hn⟩ : ∃ n, n = L.length := ⟨_, rfl⟩
  have HW1 := hid (show IntKind.i64.wrap ((n : Int) - 1) = (lst : Int) by rw [IntWalk.i64_in _ (by omega)]; omega)
  have HW2 := hid (show (lst : Int) < (n : Int) by omega)
  have HW3 := hid (show IntKind.i64.wrap ((m : Int) + 1) = ((m + 1 : Nat) : Int) by rw [IntWalk.i64_in _ (by simp only at hms; omega)]; omega)
  have HW4 := hid (show m ≤ 1000 by simp only at hms; omega)
  have HM := hid (show (L.map fun x => (x.2.length : Int))[lst]? = some (m : Int) by rw [List.getElem?_map, hxl, hmw]; rfl)
  have HN := hid hn
  have HD := hid hd
  have HX := hid hxl
  have HMW := hid hmw
  have HLL := hid (And.intro hlen hlst)
  rw [← hm]
  clear hd hlen hpos hlst hxl hm hmw hms hn
  go_enter Tryd.func21, Tryd.ntmps21
  go_wp2_with fail
  refine (HC.out _).mono ?_
  rintro e' w1 ⟨Br, M, v0, v1, v2, v3, rfl, hrs⟩
  have hrs2 := RS_lower hrs ((Below.refl _ w).alloc (Nat.le_refl _) (.cells (st8 t) 30))
  obtain ⟨b3, c3, hv3, _, _⟩ := R_form hrs2.r3 (by rw [List.length_map]; have := HLL.out.2; omega)
  rw [List.length_map, ← HN.out] at hv3
  subst hv3
  have RR := hid hrs2
  clear hrs hrs2 HC
  go_upto_region 4 with fail
  refine start_ (n := 15) (S := fun w' => True) (ds := []) #[ff, ff, ff, ff, ff, ff, ff, ff, ff, ff, ff, ff, ff, ff, ff] (by kernel_rfl) rfl rfl trivial (fun hHeld => ?_)
  refine with_tabW rla.tab4 rla.bits4 (fun HT_ HW_ => ?_)
  have n_RR := hid (To.RS_drew RR.out)
  clear RR
  have RR := n_RR
  clear n_RR
  generalize World.drew _ = w4 at RR hHeld ⊢
  refine pure_ (i := 0) (N := some 19) (v := ?_) (a' := ?_) #[tt, ff, ff, ff, ff, ff, ff, ff, ff, ff, ff, ff, ff, ff, ff] rfl rfl (any_of HT_.out (by kernel_rfl)) (fun _ _ _ h => h) (Or.inl ⟨by rfl, ?_⟩) ?_ ?_
  rotate_left
  ·intro w'
   go_simp
   with_reducible rfl
  rotate_left
  ·simp only [Act.put, List.setIfInBounds_toArray, List.set_cons_zero, List.set_cons_succ, i64_w, i32_w]
   rfl
  refine pure_ (i := 1) (N := some 20) (v := ?_) (a' := ?_) #[tt, tt, ff, ff, ff, ff, ff, ff, ff, ff, ff, ff, ff, ff, ff] rfl rfl (any_of HT_.out (by kernel_rfl)) (fun _ _ _ h => h) (Or.inl ⟨by rfl, ?_⟩) ?_ ?_
  rotate_left
  ·intro w'
   go_simp
   with_reducible rfl
  rotate_left
  ·simp only [Act.put, List.setIfInBounds_toArray, List.set_cons_zero, List.set_cons_succ, i64_w, i32_w]
   rfl
  refine pure_ (i := 2) (N := some 21) (v := ?_) (a' := ?_) #[tt, tt, tt, ff, ff, ff, ff, ff, ff, ff, ff, ff, ff, ff, ff] rfl rfl (any_of HT_.out (by kernel_rfl)) (fun _ _ _ h => h) (Or.inl ⟨by rfl, ?_⟩) ?_ ?_
  rotate_left
  ·intro w'
   go_simp
   with_reducible rfl
  rotate_left
  ·simp only [Act.put, List.setIfInBounds_toArray, List.set_cons_zero, List.set_cons_succ, i64_w, i32_w]
   rfl
  refine pure_ (i := 4) (N := some 23) (v := ?_) (a' := ?_) #[tt, tt, tt, ff, tt, ff, ff, ff, ff, ff, ff, ff, ff, ff, ff] rfl rfl (any_of HT_.out (by kernel_rfl)) (fun _ _ _ h => h) (Or.inl ⟨by rfl, ?_⟩) ?_ ?_
  rotate_left
  ·intro w'
   go_simp
   with_reducible rfl
  rotate_left
  ·simp only [Act.put, List.setIfInBounds_toArray, List.set_cons_zero, List.set_cons_succ, i64_w, i32_w]
   rfl
  refine pure_ (i := 5) (N := some 24) (v := ?_) (a' := ?_) #[tt, tt, tt, ff, tt, tt, ff, ff, ff, ff, ff, ff, ff, ff, ff] rfl rfl (any_of HT_.out (by kernel_rfl)) (fun _ _ _ h => h) (Or.inl ⟨by rfl, ?_⟩) ?_ ?_
  rotate_left
  ·intro w'
   go_simp
   with_reducible rfl
  rotate_left
  ·simp only [Act.put, List.setIfInBounds_toArray, List.set_cons_zero, List.set_cons_succ, i64_w, i32_w]
   rfl
  refine pure_ (i := 6) (N := some 25) (v := ?_) (a' := ?_) #[tt, tt, tt, ff, tt, tt, tt, ff, ff, ff, ff, ff, ff, ff, ff] rfl rfl (any_of HT_.out (by kernel_rfl)) (fun _ _ _ h => h) (Or.inl ⟨by rfl, ?_⟩) ?_ ?_
  rotate_left
  ·intro w'
   go_simp
   with_reducible rfl
  rotate_left
  ·simp only [Act.put, List.setIfInBounds_toArray, List.set_cons_zero, List.set_cons_succ, i64_w, i32_w]
   rfl
  refine inv_at [3, 7, 8, 9, 10, 11, 12, 13, 14] (fun a0_ b a w' => ∃ (u8_ : Value) (m14_ : Value), a = putSel a0_ b [(3, 22, .slice (some ⟨b3, 0, none⟩) n c3), (7, 26, .slice (some ⟨b3, 0, none⟩) n c3), (8, 27, .int .i64 (n : Int)), (9, 28, .int .i64 (lst : Int)), (10, 29, .pointer (some ⟨b3, lst, none⟩)), (11, 30, .int .i64 (m : Int)), (12, 31, .int .i64 ((m + 1 : Nat) : Int)), (13, 32, u8_), (14, 8, m14_)] ∧ (RS w w' Br M L v0 v1 v2 (.slice (some ⟨b3, 0, none⟩) n c3)) ∧ (b 13 = true → Kd.R (Kd.int .i64) 3 w' w.heap.size (fun _ => True) u8_ (List.replicate (m + 1) 0) ∧ ∀ k_, u8_.ownBlock = some k_ → b3 < k_) ∧ (b 14 = true → (m14_ : Value) = u8_)) HT_.out HW_.out (by kernel_rfl) (by kernel_rfl) ?_ ?_ ?_
  ·exact ⟨.bool false, .bool false, by simp only [putSel, Bool.false_eq_true, if_false], RR.out, fun h_ => absurd h_ (by decide), fun h_ => absurd h_ (by decide)⟩
  ·skip
   clear RR
   refine steps_cons ?_ ?_
   ·rintro b a w' ⟨u8_, m14_, ha, Q_RR, Q_U8, Q_X14_⟩ hb_ hon hoff
    refine ⟨_, rfl, fun K hK => ?_⟩
    have e21 : a.tmps[21]? = some (.pointer (some ⟨Br, 3, none⟩)) := by rw [ha]; exact (putSel_off rfl).trans rfl
    replace ha := Aside0.mk ha
    have RR := Aside0.mk Q_RR
    have hv_ : w'.cell? ⟨Br, 3, none⟩ = some (.slice (some ⟨b3, 0, none⟩) n c3) := blk_cell RR.out.blk 3
    refine value_ (w1 := w') (v := .slice (some ⟨b3, 0, none⟩) n c3) (by rfl) rfl ?_ ?_
    ·go_simp
     (try simp only [i64_w])
     try rfl
    refine hK.out _ _ ⟨u8_, m14_, (by rw [ha.out]; exact putSel_upk 0 hb_ rfl rfl rfl), Q_RR, fun h0_ => absurd ((hoff 13 (by kernel_rfl)).symm.trans h0_) (by decide), fun h0_ => absurd ((hoff 14 (by kernel_rfl)).symm.trans h0_) (by decide)⟩
   refine steps_cons ?_ ?_
   ·rintro b a w' ⟨u8_, m14_, ha, Q_RR, Q_U8, Q_X14_⟩ hb_ hon hoff
    refine ⟨_, rfl, fun K hK => ?_⟩
    have e25 : a.tmps[25]? = some (.pointer (some ⟨Br, 3, none⟩)) := by rw [ha]; exact (putSel_off rfl).trans rfl
    replace ha := Aside0.mk ha
    have RR := Aside0.mk Q_RR
    have hv_ : w'.cell? ⟨Br, 3, none⟩ = some (.slice (some ⟨b3, 0, none⟩) n c3) := blk_cell RR.out.blk 3
    refine value_ (w1 := w') (v := .slice (some ⟨b3, 0, none⟩) n c3) (by rfl) rfl ?_ ?_
    ·go_simp
     (try simp only [i64_w])
     try rfl
    refine hK.out _ _ ⟨u8_, m14_, (by rw [ha.out]; exact putSel_upk 1 hb_ rfl rfl rfl), Q_RR, fun h0_ => absurd ((hoff 13 (by kernel_rfl)).symm.trans h0_) (by decide), fun h0_ => absurd ((hoff 14 (by kernel_rfl)).symm.trans h0_) (by decide)⟩
   refine steps_cons ?_ ?_
   ·rintro b a w' ⟨u8_, m14_, ha, Q_RR, Q_U8, Q_X14_⟩ hb_ hon hoff
    refine ⟨_, rfl, fun K hK => ?_⟩
    have e26 : a.tmps[26]? = some (.slice (some ⟨b3, 0, none⟩) n c3) := by rw [ha]; exact putSel_on (e := (7, 26, .slice (some ⟨b3, 0, none⟩) n c3)) 1 rfl rfl (hon 7 (by kernel_rfl)) rfl
    replace ha := Aside0.mk ha
    have RR := Aside0.mk Q_RR
    refine value_ (w1 := w') (v := .int .i64 (n : Int)) (by rfl) rfl ?_ ?_
    ·go_simp
     (try simp only [i64_w])
     try rfl
    refine hK.out _ _ ⟨u8_, m14_, (by rw [ha.out]; exact putSel_upk 2 hb_ rfl rfl rfl), Q_RR, fun h0_ => absurd ((hoff 13 (by kernel_rfl)).symm.trans h0_) (by decide), fun h0_ => absurd ((hoff 14 (by kernel_rfl)).symm.trans h0_) (by decide)⟩
   refine steps_cons ?_ ?_
   ·rintro b a w' ⟨u8_, m14_, ha, Q_RR, Q_U8, Q_X14_⟩ hb_ hon hoff
    refine ⟨_, rfl, fun K hK => ?_⟩
    have e27 : a.tmps[27]? = some (.int .i64 (n : Int)) := by rw [ha]; exact putSel_on (e := (8, 27, .int .i64 (n : Int))) 2 rfl rfl (hon 8 (by kernel_rfl)) rfl
    replace ha := Aside0.mk ha
    have RR := Aside0.mk Q_RR
    have hw_ : IntKind.i64.wrap ((n : Int) - 1) = (lst : Int) := HW1.out
    refine value_ (w1 := w') (v := .int .i64 (lst : Int)) (by rfl) rfl ?_ ?_
    ·go_simp
     (try simp only [i64_w])
     try rfl
    refine hK.out _ _ ⟨u8_, m14_, (by rw [ha.out]; exact putSel_upk 3 hb_ rfl rfl rfl), Q_RR, fun h0_ => absurd ((hoff 13 (by kernel_rfl)).symm.trans h0_) (by decide), fun h0_ => absurd ((hoff 14 (by kernel_rfl)).symm.trans h0_) (by decide)⟩
   refine steps_cons ?_ ?_
   ·rintro b a w' ⟨u8_, m14_, ha, Q_RR, Q_U8, Q_X14_⟩ hb_ hon hoff
    refine ⟨_, rfl, fun K hK => ?_⟩
    have e22 : a.tmps[22]? = some (.slice (some ⟨b3, 0, none⟩) n c3) := by rw [ha]; exact putSel_on (e := (3, 22, .slice (some ⟨b3, 0, none⟩) n c3)) 0 rfl rfl (hon 3 (by kernel_rfl)) rfl
    have e28 : a.tmps[28]? = some (.int .i64 (lst : Int)) := by rw [ha]; exact putSel_on (e := (9, 28, .int .i64 (lst : Int))) 3 rfl rfl (hon 9 (by kernel_rfl)) rfl
    replace ha := Aside0.mk ha
    have RR := Aside0.mk Q_RR
    have hk0_ : (0 : Int) ≤ (lst : Int) := by omega
    have hk1_ : (lst : Int) < (n : Int) := HW2.out
    refine value_ (w1 := w') (v := .pointer (some ⟨b3, lst, none⟩)) (by rfl) rfl ?_ ?_
    ·go_simp
     (try simp only [i64_w])
     try rfl
    refine hK.out _ _ ⟨u8_, m14_, (by rw [ha.out]; exact putSel_upk 4 hb_ rfl rfl rfl), Q_RR, fun h0_ => absurd ((hoff 13 (by kernel_rfl)).symm.trans h0_) (by decide), fun h0_ => absurd ((hoff 14 (by kernel_rfl)).symm.trans h0_) (by decide)⟩
   refine steps_cons ?_ ?_
   ·rintro b a w' ⟨u8_, m14_, ha, Q_RR, Q_U8, Q_X14_⟩ hb_ hon hoff
    refine ⟨_, rfl, fun K hK => ?_⟩
    have e29 : a.tmps[29]? = some (.pointer (some ⟨b3, lst, none⟩)) := by rw [ha]; exact putSel_on (e := (10, 29, .pointer (some ⟨b3, lst, none⟩))) 4 rfl rfl (hon 10 (by kernel_rfl)) rfl
    replace ha := Aside0.mk ha
    have RR := Aside0.mk Q_RR
    have hc_ := int_cell RR.out.r3 lst (m : Int) HM.out
    refine value_ (w1 := w') (v := .int .i64 (m : Int)) (by rfl) rfl ?_ ?_
    ·go_simp
     (try simp only [i64_w])
     try rfl
    refine hK.out _ _ ⟨u8_, m14_, (by rw [ha.out]; exact putSel_upk 5 hb_ rfl rfl rfl), Q_RR, fun h0_ => absurd ((hoff 13 (by kernel_rfl)).symm.trans h0_) (by decide), fun h0_ => absurd ((hoff 14 (by kernel_rfl)).symm.trans h0_) (by decide)⟩
   refine steps_cons ?_ ?_
   ·rintro b a w' ⟨u8_, m14_, ha, Q_RR, Q_U8, Q_X14_⟩ hb_ hon hoff
    refine ⟨_, rfl, fun K hK => ?_⟩
    have e30 : a.tmps[30]? = some (.int .i64 (m : Int)) := by rw [ha]; exact putSel_on (e := (11, 30, .int .i64 (m : Int))) 5 rfl rfl (hon 11 (by kernel_rfl)) rfl
    replace ha := Aside0.mk ha
    have RR := Aside0.mk Q_RR
    have hw_ : IntKind.i64.wrap ((m : Int) + 1) = ((m + 1 : Nat) : Int) := HW3.out
    refine value_ (w1 := w') (v := .int .i64 ((m + 1 : Nat) : Int)) (by rfl) rfl ?_ ?_
    ·go_simp
     (try simp only [i64_w])
     try rfl
    refine hK.out _ _ ⟨u8_, m14_, (by rw [ha.out]; exact putSel_upk 6 hb_ rfl rfl rfl), Q_RR, fun h0_ => absurd ((hoff 13 (by kernel_rfl)).symm.trans h0_) (by decide), fun h0_ => absurd ((hoff 14 (by kernel_rfl)).symm.trans h0_) (by decide)⟩
   refine steps_cons ?_ ?_
   ·rintro b a w' ⟨u8_, m14_, ha, Q_RR, Q_U8, Q_X14_⟩ hb_ hon hoff
    refine ⟨_, rfl, fun K hK => ?_⟩
    have e31 : a.tmps[31]? = some (.int .i64 ((m + 1 : Nat) : Int)) := by rw [ha]; exact putSel_on (e := (12, 31, .int .i64 ((m + 1 : Nat) : Int))) 6 rfl rfl (hon 12 (by kernel_rfl)) rfl
    replace ha := Aside0.mk ha
    have RR := Aside0.mk Q_RR
    refine Kd.R_make_step (Kd.int .i64) (w0 := w) w.heap.size 3 (by rfl) rfl 37 (.tmp 31) (.tmp 31) rfl ((m + 1 : Nat) : Int) (eval_of e31) (eval_of e31) Tryd.underlying37 (.int .i64 0) 8 infoI rfl (by decide) (by decide) 0 (ok := fun _ => True) (okp := fun _ => True) rfl (fun _ _ => trivial) trivial (by omega) (by have h_ := HW4.out; omega) RR.out.bel RR.out.bel.size ?_
    intro u8 w1 ho hb hg hat
    refine hK.out _ _ ⟨u8, m14_, (by rw [ha.out]; exact putSel_upk 7 hb_ rfl rfl rfl), RS.below RR.out (below_none hg), fun _ => ⟨by simpa using ho, fun k_ e_ => by obtain ⟨b_, hb_, hs_⟩ := hat; rw [hb_] at e_; injection e_ with e_; have h_ := Kd.R_lt RR.out.r3 b3 rfl; omega⟩, fun h0_ => absurd ((hoff 14 (by kernel_rfl)).symm.trans h0_) (by decide)⟩
   refine steps_cons ?_ ?_
   ·rintro b a w' ⟨u8_, m14_, ha, Q_RR, Q_U8, Q_X14_⟩ hb_ hon hoff
    refine ⟨_, rfl, fun K hK => ?_⟩
    have e32 : a.tmps[32]? = some (u8_) := by rw [ha]; exact putSel_on (e := (13, 32, u8_)) 7 rfl rfl (hon 13 (by kernel_rfl)) rfl
    replace ha := Aside0.mk ha
    have RR := Aside0.mk Q_RR
    have U8 := Aside0.mk (Q_U8 (hon 13 (by kernel_rfl)))
    refine value_ (w1 := w') (v := u8_) (by rfl) rfl ?_ ?_
    ·go_simp
     (try simp only [i64_w])
     try rfl
    refine hK.out _ _ ⟨u8_, (u8_), (by rw [ha.out]; exact putSel_upk 8 hb_ rfl rfl rfl), Q_RR, Q_U8, fun _ => rfl⟩
   exact steps_nil
  ·rintro b a w' hall ⟨u8_, m14_, ha, Q_RR, Q_U8, Q_X14_⟩
   clear RR
   have hb3_ := hall 3 (by kernel_rfl)
   have hb7_ := hall 7 (by kernel_rfl)
   have hb8_ := hall 8 (by kernel_rfl)
   have hb9_ := hall 9 (by kernel_rfl)
   have hb10_ := hall 10 (by kernel_rfl)
   have hb11_ := hall 11 (by kernel_rfl)
   have hb12_ := hall 12 (by kernel_rfl)
   have hb13_ := hall 13 (by kernel_rfl)
   have hb14_ := hall 14 (by kernel_rfl)
   subst ha
   obtain rfl := Q_X14_ hb14_
   simp only [putSel, hb3_, hb7_, hb8_, hb9_, hb10_, hb11_, hb12_, hb13_, hb14_, if_true, Act.put, List.setIfInBounds_toArray, List.set_cons_zero, List.set_cons_succ]
   have RR := Aside0.mk Q_RR
   clear Q_RR
   have U8 := Aside0.mk (Q_U8 hb13_)
   clear Q_U8
   clear hall hb3_ hb7_ hb8_ hb9_ hb10_ hb11_ hb12_ hb13_ hb14_
   obtain ⟨b8, c8, hv8, hb8, _⟩ := R_form U8.out.1 (by simp)
   rw [List.length_replicate] at hv8
   have hne := U8.out.2 b8 (by rw [hv8]; rfl)
   have R8 := hid U8.out.1
   have R3 := hid RR.out.r3
   have HB := hid RR.out.bel
   have c3_ : w'.cell? ⟨Br, 3, none⟩ = some (.slice (some ⟨b3, 0, none⟩) n c3) := blk_cell RR.out.blk 3
   have HNE := hid (And.intro hne hb8)
   clear RR U8 hne hb8
   subst hv8
   go_wp2_with fail
   clear c3_
   go_loopw [10, 38] (fun v10 v38 wr => ∃ i : Nat, v38 = .int .i64 (i : Int) ∧ i ≤ n ∧ Kd.R (Kd.int .i64) 3 wr w.heap.size (fun _ => True) (.slice (some ⟨b8, 0, none⟩) (m + 1) c8) (lay m ((fars L).take i)) ∧ wr.heap[b3]? = w'.heap[b3]? ∧ Below w.heap.size w wr) (fun _ v38 _ => n - (intOf v38).toNat)
   case atStart => exact ⟨0, rfl, Nat.zero_le _, by rw [List.take_zero, lay_nil]; exact R8.out, rfl, HB.out⟩
   case round =>
    clear HB R8
    obtain ⟨i, rfl, hi, h8, hq, hB⟩ := hrel
    by_cases hlt : i < n
    ·have hnl := HN.out
     have hll := HLL.out
     obtain ⟨⟨u, wd⟩, hx⟩ : ∃ x, L[i]? = some x := ⟨_, List.getElem?_eq_getElem (by omega)⟩
     have hcell := int_cell R3.out i (wd.length : Int) (by rw [List.getElem?_map, hx]; rfl)
     have hc : wr.cell? ⟨b3, i, none⟩ = some (.int .i64 (wd.length : Int)) := by
      unfold World.cell? at hcell ⊢
      rw [hq]
      exact hcell
     have hfm : wd.length ≤ m := by
      have := Reach.far_mono HD.out.rising hx HX.out (by omega)
      rw [HMW.out]
      exact this
     obtain ⟨f, hf⟩ : ∃ f, f = wd.length := ⟨_, rfl⟩
     rw [← hf] at hc hfm
     obtain ⟨cn, hcn⟩ : ∃ cn, cn = cnt ((fars L).take i) f := ⟨_, rfl⟩
     have hc8 := int_cell h8 f (cn : Int) (by rw [lay_at m _ f hfm, hcn])
     have hf8 := int_free h8 f (by rw [lay_length]; omega)
     have hcle : cn ≤ 1000 := by
      rw [hcn]
      refine Nat.le_trans (cnt_le _ _) ?_
      rw [List.length_take]
      omega
     have hw : IntKind.i64.wrap ((cn : Int) + 1) = (cn : Int) + 1 := IntWalk.i64_in _ (by omega)
     have hput := Kd.R_putg (enc := fun x : Int => Value.int .i64 x) h8 (f : Int) ((cn : Int) + 1)
     have hset : (lay m ((fars L).take i)).set f ((cn : Int) + 1) = lay m ((fars L).take (i + 1)) := by
      rw [hcn, lay_set m _ f hfm]
      congr 1
      rw [List.take_add_one]
      congr 1
      rw [fars, List.getElem?_map, hx, hf]
      rfl
     rw [Int.toNat_natCast, hset] at hput
     have HP := hid hput.1
     have HQ := hid hq
     have HB := hid hB
     have HLT := hid hlt
     have hi0 : (0 : Int) ≤ (i : Int) := by omega
     have hi1 : (i : Int) < (n : Int) := by omega
     have hf0 : (0 : Int) ≤ (f : Int) := by omega
     have hf1 : (f : Int) < ((m + 1 : Nat) : Int) := by omega
     have hnb : b3 ≠ b8 := by have := HNE.out.1; omega
     have hn1000 : (n : Int) ≤ 1000 := by omega
     clear hnl hll hx hcell hfm hf hcn hcle hput hset hq hB h8 hlt
     go_wp2_with fail
     go_roundw
     case rel => exact ⟨i + 1, by go_num, HLT.out, HP.out, (Below.heap_setCell _ _ _ b3 hnb).trans HQ.out, below_set HB.out HNE.out.2⟩
     case measure =>
      have := HLT.out
      simp [intOf]
      omega
    ·obtain rfl : i = n := by omega
     have hge : ¬ ((i : Int) < (i : Int)) := by omega
     have hall : (fars L).take i = fars L := List.take_of_length_le (by rw [fars, List.length_map, HN.out]; exact Nat.le_refl _)
     rw [hall] at h8
     have HF := hid (And.intro h8 hB)
     clear hlt h8 hq hB hall
     go_wp2_with fail
     go_ret2
     exact ⟨_, rfl, HF.out.1, HF.out.2⟩
end Go.Proofs.YthfeiklaoljdnaaDoor.LayersR
