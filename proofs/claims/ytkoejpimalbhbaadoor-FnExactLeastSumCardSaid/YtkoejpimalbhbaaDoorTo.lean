/- The program's reachTo, walked: what a state reaches, and the place of another one. Conditions: a text of no more than 2^20 bytes. -/
import Derived.Test.YtkoejpimalbhbaaDoorOn
namespace Go.Proofs.YtkoejpimalbhbaaDoor.To
set_option maxHeartbeats 4000000
set_option maxRecDepth 100000
open Go.Lib (hid)
open Go.RowKit Go.Proofs.YtkoejpimalbhbaaDoorW.PrintWords Go.Proofs.YtkoejpimalbhbaaDoorW.PrintLast Go.Proofs.YtkoejpimalbhbaaDoor.QBo Go.Proofs.YtkoejpimalbhbaaDoor.Board Go.Proofs.YtkoejpimalbhbaaDoor.BaseR Go.Proofs.YtkoejpimalbhbaaDoor.ReachR Go.Proofs.YtkoejpimalbhbaaDoor.Search Go.Proofs.YtkoejpimalbhbaaDoor.On Go.Proofs.YtkoejpimalbhbaaDoor.Maps
open Go.Proofs.YtkoejpimalbhbaaDoor.Reach (St)
set_option linter.unusedVariables false
set_option linter.unusedSimpArgs false

theorem RS_drew {w0 wr : World} {B M : Nat} {L : Bfs.Nodes St} {v0 v1 v2 v3 : Value} (h : RS w0 wr B M L v0 v1 v2 v3) : RS w0 wr.drew B M L v0 v1 v2 v3 :=
 ⟨blk_drew h.blk, Kd.R_drew h.r0, Kd.R_drew h.r1, Kd.R_drew h.r2, Kd.R_drew h.r3, holds_below h.map (below_drew (Below.refl _ _)), h.ne, below_drew h.bel, h.big, h.bigM⟩
def atI (L : Bfs.Nodes St) (u : St) : Int := match Maps.place u 0 (L.map (·.1)) with
 | some j => (j : Int)
 | none => -1
def toOk (s : ByteArray) (t u : St) : Bool := askB s t && askB s u
def rto.T5 : Bool × List (List Nat × List Nat) := (true, [([], []), ([0], [0]), ([1], [1]), ([2], [2]), ([], []), ([3, 4], [3, 4]), ([5], [5]), ([6], [6]), ([6], [6]), ([7, 0, 1, 2, 3, 4, 5, 6, 7], [7]), ([8, 9, 0, 1, 2, 3, 4, 5, 6, 7, 8, 9], [8])])
def rto.B5 : List Nat := [0, 1, 3, 7, 0, 31, 63, 127, 127, 255, 1023]
theorem rto.tab5 : rtab .any (opsOf Tryd.f21 5) = rto.T5 := by kernel_rfl
theorem rto.bits5 : waitsOk rto.T5.2 rto.B5 = true := by kernel_rfl
theorem to_no (s : ByteArray) (hs : s.size ≤ 1048576) (t u : St) (ha : toOk s t u = false) (w : World) :
  Calls Tryd.prog 21 #[.string s, .agg (st8 t), .agg (st8 u)] w fun e w' => e = .returned (.tuple #[.pointer none, .int .i64 0, .bool false]) ∧ Below w.heap.size w w' := by
 obtain ⟨g, h1, _⟩ := onBoard_at s hs u.x u.y u.d.t u.d.n u.d.e u.d.s u.d.w u.d.b (s.size + 3) (by omega)
 rw [show (isB okB s.data.toList && stateB s.data.toList u.x u.y u.d.t u.d.n u.d.e u.d.s u.d.w u.d.b) = askB s u from rfl] at h1
 have HC2 := hid (fun W => impl_onBoard.calls _ _ _ _ _ _ _ _ _ _ _ _ W h1)
 clear h1
 unfold toOk at ha
 cases ha1 : askB s t with
 | false =>
  have HC := hid (fun W => on_no s hs t ha1 W)
  obtain ⟨q, hq⟩ : ∃ q, q = askB s u := ⟨_, rfl⟩
  rw [← hq] at HC2
  clear ha ha1 hq
  go_enter Tryd.func21, Tryd.ntmps21
  go_wp2_with fail
  refine (HC.out _).mono ?_
  rintro e' w1 ⟨rfl, hb⟩
  have HB := hid (below_then (((Below.refl _ w).alloc (Nat.le_refl _) (.cells (st8 t) 30)).alloc (by simp) (.cells (st8 u) 30)) (by simp; omega) hb)
  have hT : w1.heap[w.heap.size + 1]? = some (.cells (st8 u) 30 (0, 0)) := by
   have := blk_below (blk_new (w.alloc (.cells (st8 t) 30)) (.cells (st8 u) 30)) hb
   simpa using this
  clear hb
  have c0 : w1.cell? ⟨w.heap.size + 1, 0, none⟩ = some (.int .i64 u.x) := blk_cell hT 0
  have c1 : w1.cell? ⟨w.heap.size + 1, 1, none⟩ = some (.int .i64 u.y) := blk_cell hT 1
  have c2 : w1.cell? ⟨w.heap.size + 1, 2, none⟩ = some (.int .i64 u.d.t) := blk_cell hT 2
  have c3 : w1.cell? ⟨w.heap.size + 1, 3, none⟩ = some (.int .i64 u.d.n) := blk_cell hT 3
  have c4 : w1.cell? ⟨w.heap.size + 1, 4, none⟩ = some (.int .i64 u.d.e) := blk_cell hT 4
  have c5 : w1.cell? ⟨w.heap.size + 1, 5, none⟩ = some (.int .i64 u.d.s) := blk_cell hT 5
  have c6 : w1.cell? ⟨w.heap.size + 1, 6, none⟩ = some (.int .i64 u.d.w) := blk_cell hT 6
  have c7 : w1.cell? ⟨w.heap.size + 1, 7, none⟩ = some (.int .i64 u.d.b) := blk_cell hT 7
  clear hT
  go_wp2_with fail
  refine (HC2.out _).mono ?_
  rintro e' w2 ⟨v0, rfl, hr, hb⟩
  have HB2 := hid (below_then HB.out HB.out.size hb)
  clear hr hb HB c0 c1 c2 c3 c4 c5 c6 c7
  go_wp2_with fail
  go_ret3
  exact ⟨rfl, HB2.out⟩
 | true =>
  have HC := hid (fun W => on_yes s hs t ha1 W)
  rw [ha1, Bool.true_and] at ha
  rw [ha] at HC2
  clear ha ha1
  go_enter Tryd.func21, Tryd.ntmps21
  go_wp2_with fail
  refine (HC.out _).mono ?_
  rintro e' w1 ⟨B, M, v0, v1, v2, v3, rfl, hrs⟩
  have HB := hid (below_then (((Below.refl _ w).alloc (Nat.le_refl _) (.cells (st8 t) 30)).alloc (by simp) (.cells (st8 u) 30)) (by simp; omega) hrs.bel)
  have hT : w1.heap[w.heap.size + 1]? = some (.cells (st8 u) 30 (0, 0)) := by
   have := blk_below (blk_new (w.alloc (.cells (st8 t) 30)) (.cells (st8 u) 30)) hrs.bel
   simpa using this
  clear hrs
  have c0 : w1.cell? ⟨w.heap.size + 1, 0, none⟩ = some (.int .i64 u.x) := blk_cell hT 0
  have c1 : w1.cell? ⟨w.heap.size + 1, 1, none⟩ = some (.int .i64 u.y) := blk_cell hT 1
  have c2 : w1.cell? ⟨w.heap.size + 1, 2, none⟩ = some (.int .i64 u.d.t) := blk_cell hT 2
  have c3 : w1.cell? ⟨w.heap.size + 1, 3, none⟩ = some (.int .i64 u.d.n) := blk_cell hT 3
  have c4 : w1.cell? ⟨w.heap.size + 1, 4, none⟩ = some (.int .i64 u.d.e) := blk_cell hT 4
  have c5 : w1.cell? ⟨w.heap.size + 1, 5, none⟩ = some (.int .i64 u.d.s) := blk_cell hT 5
  have c6 : w1.cell? ⟨w.heap.size + 1, 6, none⟩ = some (.int .i64 u.d.w) := blk_cell hT 6
  have c7 : w1.cell? ⟨w.heap.size + 1, 7, none⟩ = some (.int .i64 u.d.b) := blk_cell hT 7
  clear hT
  go_wp2_with fail
  refine (HC2.out _).mono ?_
  rintro e' w2 ⟨vg, rfl, hr, hb⟩
  have HB2 := hid (below_then HB.out HB.out.size hb)
  clear hr hb HB c0 c1 c2 c3 c4 c5 c6 c7
  go_wp2_with fail
  go_ret3
  exact ⟨rfl, HB2.out⟩
theorem to_yes (s : ByteArray) (hs : s.size ≤ 1048576) (t u : St) (ha : toOk s t u = true) (w : World) :
  Calls Tryd.prog 21 #[.string s, .agg (st8 t), .agg (st8 u)] w fun e w' => ∃ B M v0 v1 v2 v3, e = .returned (.tuple #[.pointer (some ⟨B, 0, none⟩), .int .i64 (atI (found (fl s) t) u), .bool true]) ∧ RS w w' B M (found (fl s) t) v0 v1 v2 v3 := by
 obtain ⟨g, h1, _⟩ := onBoard_at s hs u.x u.y u.d.t u.d.n u.d.e u.d.s u.d.w u.d.b (s.size + 3) (by omega)
 rw [show (isB okB s.data.toList && stateB s.data.toList u.x u.y u.d.t u.d.n u.d.e u.d.s u.d.w u.d.b) = askB s u from rfl] at h1
 unfold toOk at ha
 rw [Bool.and_eq_true] at ha
 rw [ha.2] at h1
 have HC2 := hid (fun W => impl_onBoard.calls _ _ _ _ _ _ _ _ _ _ _ _ W h1)
 have HC := hid (fun W => on_yes s hs t ha.1 W)
 clear h1 ha
 obtain ⟨L, hL⟩ : ∃ L, L = found (fl s) t := ⟨_, rfl⟩
 rw [← hL] at HC ⊢
 clear hL
 go_enter Tryd.func21, Tryd.ntmps21
 go_wp2_with fail
 refine (HC.out _).mono ?_
 rintro e' w1 ⟨Br, M, v0, v1, v2, v3, rfl, hrs⟩
 have RR := hid (RS_lower hrs (((Below.refl _ w).alloc (Nat.le_refl _) (.cells (st8 t) 30)).alloc (by simp) (.cells (st8 u) 30)))
 obtain ⟨Tb, hTb⟩ : ∃ Tb, Tb = w.heap.size + 1 := ⟨_, rfl⟩
 have hT : w1.heap[Tb]? = some (.cells (st8 u) 30 (0, 0)) := by
  have := blk_below (blk_new (w.alloc (.cells (st8 t) 30)) (.cells (st8 u) 30)) hrs.bel
  rw [hTb]
  simpa using this
 rw [← hTb]
 have HTB := hid hTb
 clear hrs hTb
 have c0 : w1.cell? ⟨Tb, 0, none⟩ = some (.int .i64 u.x) := blk_cell hT 0
 have c1 : w1.cell? ⟨Tb, 1, none⟩ = some (.int .i64 u.y) := blk_cell hT 1
 have c2 : w1.cell? ⟨Tb, 2, none⟩ = some (.int .i64 u.d.t) := blk_cell hT 2
 have c3 : w1.cell? ⟨Tb, 3, none⟩ = some (.int .i64 u.d.n) := blk_cell hT 3
 have c4 : w1.cell? ⟨Tb, 4, none⟩ = some (.int .i64 u.d.e) := blk_cell hT 4
 have c5 : w1.cell? ⟨Tb, 5, none⟩ = some (.int .i64 u.d.s) := blk_cell hT 5
 have c6 : w1.cell? ⟨Tb, 6, none⟩ = some (.int .i64 u.d.w) := blk_cell hT 6
 have c7 : w1.cell? ⟨Tb, 7, none⟩ = some (.int .i64 u.d.b) := blk_cell hT 7
 have HT := hid hT
 clear hT
 go_wp2_with fail
 refine (HC2.out _).mono ?_
 rintro e' w2 ⟨vg, rfl, hr, hb⟩
 have n_RR := hid (RS.below RR.out hb)
 have BT := hid (blk_below HT.out hb)
 clear hr hb c0 c1 c2 c3 c4 c5 c6 c7 RR HT
 have RR := n_RR
 clear n_RR
 obtain ⟨ixv, hix⟩ : ∃ ixv, ixv = ((Maps.place u 0 (L.map (·.1))).map valN).getD (.int .i64 0) := ⟨_, rfl⟩
 obtain ⟨mt, hmt⟩ : ∃ mt, mt = (Maps.place u 0 (L.map (·.1))).isSome := ⟨_, rfl⟩
 have HIX := hid hix
 have HMT := hid hmt
 clear hix hmt
 go_upto_region 5 with fail
 refine start_ (n := 11) (S := fun w' => True) (ds := []) #[ff, ff, ff, ff, ff, ff, ff, ff, ff, ff, ff] (by kernel_rfl) rfl rfl trivial (fun hHeld => ?_)
 refine with_tabW rto.tab5 rto.bits5 (fun HT_ HW_ => ?_)
 have n_RR := hid (RS_drew RR.out)
 have n_BT := hid (blk_drew BT.out)
 clear RR BT
 have RR := n_RR
 have BT := n_BT
 clear n_RR n_BT
 generalize World.drew _ = w5 at RR BT hHeld ⊢
 refine pure_ (i := 0) (N := some 34) (v := ?_) (a' := ?_) #[tt, ff, ff, ff, ff, ff, ff, ff, ff, ff, ff] rfl rfl (any_of HT_.out (by kernel_rfl)) (fun _ _ _ h => h) (Or.inl ⟨by rfl, ?_⟩) ?_ ?_
 rotate_left
 ·intro w'
  go_simp
  with_reducible rfl
 rotate_left
 ·simp only [Act.put, List.setIfInBounds_toArray, List.set_cons_zero, List.set_cons_succ, i64_w, i32_w]
  rfl
 refine pure_ (i := 1) (N := some 35) (v := ?_) (a' := ?_) #[tt, tt, ff, ff, ff, ff, ff, ff, ff, ff, ff] rfl rfl (any_of HT_.out (by kernel_rfl)) (fun _ _ _ h => h) (Or.inl ⟨by rfl, ?_⟩) ?_ ?_
 rotate_left
 ·intro w'
  go_simp
  with_reducible rfl
 rotate_left
 ·simp only [Act.put, List.setIfInBounds_toArray, List.set_cons_zero, List.set_cons_succ, i64_w, i32_w]
  rfl
 refine pure_ (i := 2) (N := some 36) (v := ?_) (a' := ?_) #[tt, tt, tt, ff, ff, ff, ff, ff, ff, ff, ff] rfl rfl (any_of HT_.out (by kernel_rfl)) (fun _ _ _ h => h) (Or.inl ⟨by rfl, ?_⟩) ?_ ?_
 rotate_left
 ·intro w'
  go_simp
  with_reducible rfl
 rotate_left
 ·simp only [Act.put, List.setIfInBounds_toArray, List.set_cons_zero, List.set_cons_succ, i64_w, i32_w]
  rfl
 refine inv_at [3, 4, 5, 6, 7, 8, 9, 10] (fun a0_ b a w' => a = putSel a0_ b [(3, 37, .map (some M)), (4, 38, .agg #[.int .i64 u.x, .int .i64 u.y, .int .i64 u.d.t, .int .i64 u.d.n, .int .i64 u.d.e, .int .i64 u.d.s, .int .i64 u.d.w, .int .i64 u.d.b]), (5, 39, .tuple #[ixv, .bool mt]), (6, 33, .tuple #[ixv, .bool mt]), (7, 40, ixv), (8, 41, .bool mt), (9, 13, ixv), (10, 14, .bool mt)] ∧ (RS w w' Br M L v0 v1 v2 v3) ∧ (w'.heap[Tb]? = some (.cells (st8 u) 30 (0, 0)))) HT_.out HW_.out (by kernel_rfl) (by kernel_rfl) ?_ ?_ ?_
 ·exact ⟨by simp only [putSel, Bool.false_eq_true, if_false], RR.out, BT.out⟩
 ·skip
  clear BT RR
  refine steps_cons ?_ ?_
  ·rintro b a w' ⟨ha, Q_RR, Q_BT⟩ hb_ hon hoff
   refine ⟨_, rfl, fun K hK => ?_⟩
   have e36 : a.tmps[36]? = some (.pointer (some ⟨Br, 4, none⟩)) := by rw [ha]; exact (putSel_off rfl).trans rfl
   replace ha := am ha
   have RR := am Q_RR
   have BT := am Q_BT
   have hv_ : w'.cell? ⟨Br, 4, none⟩ = some (.map (some M)) := blk_cell RR.out.blk 4
   refine value_ (w1 := w') (v := .map (some M)) (by rfl) rfl ?_ ?_
   ·go_simp
    (try simp only [i64_w])
    try rfl
   refine hK.out _ _ ⟨(by rw [ha.out]; exact putSel_upk 0 hb_ rfl rfl rfl), Q_RR, Q_BT⟩
  refine steps_cons ?_ ?_
  ·rintro b a w' ⟨ha, Q_RR, Q_BT⟩ hb_ hon hoff
   refine ⟨_, rfl, fun K hK => ?_⟩
   have e5 : a.tmps[5]? = some (.pointer (some ⟨Tb, 0, none⟩)) := by rw [ha]; exact (putSel_off rfl).trans rfl
   replace ha := am ha
   have RR := am Q_RR
   have BT := am Q_BT
   have o0 : w'.cell? ⟨Tb, 0, none⟩ = some (.int .i64 u.x) := blk_cell BT.out 0
   have o1 : w'.cell? ⟨Tb, 1, none⟩ = some (.int .i64 u.y) := blk_cell BT.out 1
   have o2 : w'.cell? ⟨Tb, 2, none⟩ = some (.int .i64 u.d.t) := blk_cell BT.out 2
   have o3 : w'.cell? ⟨Tb, 3, none⟩ = some (.int .i64 u.d.n) := blk_cell BT.out 3
   have o4 : w'.cell? ⟨Tb, 4, none⟩ = some (.int .i64 u.d.e) := blk_cell BT.out 4
   have o5 : w'.cell? ⟨Tb, 5, none⟩ = some (.int .i64 u.d.s) := blk_cell BT.out 5
   have o6 : w'.cell? ⟨Tb, 6, none⟩ = some (.int .i64 u.d.w) := blk_cell BT.out 6
   have o7 : w'.cell? ⟨Tb, 7, none⟩ = some (.int .i64 u.d.b) := blk_cell BT.out 7
   refine value_ (w1 := w') (v := .agg #[.int .i64 u.x, .int .i64 u.y, .int .i64 u.d.t, .int .i64 u.d.n, .int .i64 u.d.e, .int .i64 u.d.s, .int .i64 u.d.w, .int .i64 u.d.b]) (by rfl) rfl ?_ ?_
   ·go_simp
    (try simp only [i64_w])
    try rfl
   refine hK.out _ _ ⟨(by rw [ha.out]; exact putSel_upk 1 hb_ rfl rfl rfl), Q_RR, Q_BT⟩
  refine steps_cons ?_ ?_
  ·rintro b a w' ⟨ha, Q_RR, Q_BT⟩ hb_ hon hoff
   refine ⟨_, rfl, fun K hK => ?_⟩
   have e37 : a.tmps[37]? = some (.map (some M)) := by rw [ha]; exact putSel_on (e := (3, 37, .map (some M))) 0 rfl rfl (hon 3 (by kernel_rfl)) rfl
   have e38 : a.tmps[38]? = some (.agg #[.int .i64 u.x, .int .i64 u.y, .int .i64 u.d.t, .int .i64 u.d.n, .int .i64 u.d.e, .int .i64 u.d.s, .int .i64 u.d.w, .int .i64 u.d.b]) := by rw [ha]; exact putSel_on (e := (4, 38, .agg #[.int .i64 u.x, .int .i64 u.y, .int .i64 u.d.t, .int .i64 u.d.n, .int .i64 u.d.e, .int .i64 u.d.s, .int .i64 u.d.w, .int .i64 u.d.b])) 1 rfl rfl (hon 4 (by kernel_rfl)) rfl
   replace ha := am ha
   have RR := am Q_RR
   have BT := am Q_BT
   have hlk_ := look_run (val := valN) fits Tryd.underlying63 (Reached.zeroI w') RR.out.map u true
   rw [show encSt u = _ from rfl, if_pos rfl, ← HIX.out, ← HMT.out] at hlk_
   refine value_ (w1 := w') (v := .tuple #[ixv, .bool mt]) (by rfl) rfl ?_ ?_
   ·go_simp
    (try simp only [i64_w])
    try rfl
   refine hK.out _ _ ⟨(by rw [ha.out]; exact putSel_upk 2 hb_ rfl rfl rfl), Q_RR, Q_BT⟩
  refine steps_cons ?_ ?_
  ·rintro b a w' ⟨ha, Q_RR, Q_BT⟩ hb_ hon hoff
   refine ⟨_, rfl, fun K hK => ?_⟩
   have e39 : a.tmps[39]? = some (.tuple #[ixv, .bool mt]) := by rw [ha]; exact putSel_on (e := (5, 39, .tuple #[ixv, .bool mt])) 2 rfl rfl (hon 5 (by kernel_rfl)) rfl
   replace ha := am ha
   have RR := am Q_RR
   have BT := am Q_BT
   refine value_ (w1 := w') (v := .tuple #[ixv, .bool mt]) (by rfl) rfl ?_ ?_
   ·go_simp
    (try simp only [i64_w])
    try rfl
   refine hK.out _ _ ⟨(by rw [ha.out]; exact putSel_upk 3 hb_ rfl rfl rfl), Q_RR, Q_BT⟩
  refine steps_cons ?_ ?_
  ·rintro b a w' ⟨ha, Q_RR, Q_BT⟩ hb_ hon hoff
   refine ⟨_, rfl, fun K hK => ?_⟩
   have e33 : a.tmps[33]? = some (.tuple #[ixv, .bool mt]) := by rw [ha]; exact putSel_on (e := (6, 33, .tuple #[ixv, .bool mt])) 3 rfl rfl (hon 6 (by kernel_rfl)) rfl
   replace ha := am ha
   have RR := am Q_RR
   have BT := am Q_BT
   refine value_ (w1 := w') (v := ixv) (by rfl) rfl ?_ ?_
   ·go_simp
    (try simp only [i64_w])
    try rfl
   refine hK.out _ _ ⟨(by rw [ha.out]; exact putSel_upk 4 hb_ rfl rfl rfl), Q_RR, Q_BT⟩
  refine steps_cons ?_ ?_
  ·rintro b a w' ⟨ha, Q_RR, Q_BT⟩ hb_ hon hoff
   refine ⟨_, rfl, fun K hK => ?_⟩
   have e33 : a.tmps[33]? = some (.tuple #[ixv, .bool mt]) := by rw [ha]; exact putSel_on (e := (6, 33, .tuple #[ixv, .bool mt])) 3 rfl rfl (hon 6 (by kernel_rfl)) rfl
   replace ha := am ha
   have RR := am Q_RR
   have BT := am Q_BT
   refine value_ (w1 := w') (v := .bool mt) (by rfl) rfl ?_ ?_
   ·go_simp
    (try simp only [i64_w])
    try rfl
   refine hK.out _ _ ⟨(by rw [ha.out]; exact putSel_upk 5 hb_ rfl rfl rfl), Q_RR, Q_BT⟩
  refine steps_cons ?_ ?_
  ·rintro b a w' ⟨ha, Q_RR, Q_BT⟩ hb_ hon hoff
   refine ⟨_, rfl, fun K hK => ?_⟩
   have e40 : a.tmps[40]? = some (ixv) := by rw [ha]; exact putSel_on (e := (7, 40, ixv)) 4 rfl rfl (hon 7 (by kernel_rfl)) rfl
   replace ha := am ha
   have RR := am Q_RR
   have BT := am Q_BT
   refine value_ (w1 := w') (v := ixv) (by rfl) rfl ?_ ?_
   ·go_simp
    (try simp only [i64_w])
    try rfl
   refine hK.out _ _ ⟨(by rw [ha.out]; exact putSel_upk 6 hb_ rfl rfl rfl), Q_RR, Q_BT⟩
  refine steps_cons ?_ ?_
  ·rintro b a w' ⟨ha, Q_RR, Q_BT⟩ hb_ hon hoff
   refine ⟨_, rfl, fun K hK => ?_⟩
   have e41 : a.tmps[41]? = some (.bool mt) := by rw [ha]; exact putSel_on (e := (8, 41, .bool mt)) 5 rfl rfl (hon 8 (by kernel_rfl)) rfl
   replace ha := am ha
   have RR := am Q_RR
   have BT := am Q_BT
   refine value_ (w1 := w') (v := .bool mt) (by rfl) rfl ?_ ?_
   ·go_simp
    (try simp only [i64_w])
    try rfl
   refine hK.out _ _ ⟨(by rw [ha.out]; exact putSel_upk 7 hb_ rfl rfl rfl), Q_RR, Q_BT⟩
  exact steps_nil
 ·rintro b a w' hall ⟨ha, Q_RR, Q_BT⟩
  clear BT RR
  have hb3_ := hall 3 (by kernel_rfl)
  have hb4_ := hall 4 (by kernel_rfl)
  have hb5_ := hall 5 (by kernel_rfl)
  have hb6_ := hall 6 (by kernel_rfl)
  have hb7_ := hall 7 (by kernel_rfl)
  have hb8_ := hall 8 (by kernel_rfl)
  have hb9_ := hall 9 (by kernel_rfl)
  have hb10_ := hall 10 (by kernel_rfl)
  subst ha
  simp only [putSel, hb3_, hb4_, hb5_, hb6_, hb7_, hb8_, hb9_, hb10_, if_true, Act.put, List.setIfInBounds_toArray, List.set_cons_zero, List.set_cons_succ]
  have RR := am Q_RR
  clear Q_RR
  have BT := am Q_BT
  clear Q_BT
  clear hall hb3_ hb4_ hb5_ hb6_ hb7_ hb8_ hb9_ hb10_
  cases mt with
  | false =>
   go_wp2_with fail
   go_ret3
   refine ⟨Br, M, v0, v1, v2, v3, ?_, RR.out⟩
   have hm := HMT.out
   unfold atI
   cases hp : Maps.place u 0 (L.map (·.1)) with
   | none => rfl
   | some j => rw [hp] at hm; cases hm
  | true =>
   go_wp2_with fail
   go_ret3
   refine ⟨Br, M, v0, v1, v2, v3, ?_, RR.out⟩
   have hm := HMT.out
   have hx := HIX.out
   unfold atI
   cases hp : Maps.place u 0 (L.map (·.1)) with
   | none => rw [hp] at hm; cases hm
   | some j => rw [hx, hp]; rfl
end Go.Proofs.YtkoejpimalbhbaaDoor.To
