/- The reference's search: all states that rolls make of a state. Conditions: the moves keep to good states; the list stays below 1000 nodes. -/
import Derived.Test.YtkoejpimalbhbaaDoorWyR
import Derived.OwnWalk
import Derived.Deep.LoopGhost
import Derived.Deep.QuietTactic
import Derived.BigQuiet
import Derived.Deep.CutBlock
import Derived.Deep.RegionHeld3
import Derived.Deep.RegionWith
import Derived.Deep.DeepCutAuto
import Derived.Lib.Hide
import Derived.Carry
import Derived.IntWalk
namespace Go.Proofs.YtkoejpimalbhbaaDoor.WyAll
open Go.Lib (hid)
open Go.RowKit Go.Proofs.YtkoejpimalbhbaaDoorW.PrintWords Go.Proofs.YtkoejpimalbhbaaDoorW.PrintLast Go.Proofs.YtkoejpimalbhbaaDoor.QBs Go.Proofs.YtkoejpimalbhbaaDoor.ReachR Go.Proofs.YtkoejpimalbhbaaDoor.WyR
open Go.Proofs.YtkoejpimalbhbaaDoor.Reach (St)
set_option linter.unusedVariables false
set_option linter.unusedSimpArgs false

theorem infoN : (Tryd.prog.info? 44).map (fun i => (i.zero, i.size, i.bytes)) = some (some (.agg #[.int .i64 0, .int .i64 0, .int .i64 0, .int .i64 0, .int .i64 0, .int .i64 0, .int .i64 0, .int .i64 0, .int .i64 0, .int .i64 0, .int .i64 0, .int .i64 0, .int .i64 0, .int .i64 0, .int .i64 0, .int .i64 0]), 16, 128) := by kernel_rfl
theorem infoI : (Tryd.prog.info? 3).map (fun i => (i.zero, i.size, i.bytes)) = some (some (.int .i64 0), 1, 8) := by kernel_rfl
theorem R_big {e base b n c : Nat} {ok : Nat → Prop} {w : World} {xs : List Nd} (h : Kd.R kNd e w base ok (.slice (some ⟨b, 0, none⟩) n c) (xs.map sNd)) : base ≤ b := by
 obtain ⟨i, o⟩ := Kd.R_own h
 exact own_base o b rfl
theorem next_s (x : Nd) (i : Nat) (v : Int) : (x.next i v).s = x.s := by
 unfold Nd.next
 split
 ·rfl
 ·split
  ·rfl
  ·split <;> rfl
theorem codes_set (code : St → Int) (L : List Nd) (k : Nat) (x y : Nd) (hx : L[k]? = some x) (hs : y.s = x.s) : codes code (L.set k y) = codes code L := by
 apply List.ext_getElem?
 intro j
 unfold codes
 rw [List.getElem?_map, List.getElem?_map, List.getElem?_set]
 by_cases h : k = j
 ·subst h
  rw [if_pos rfl, hx]
  have hk := (List.getElem?_eq_some_iff.1 hx).1
  rw [if_pos hk]
  simp [hs]
 ·rw [if_neg h]
def step1 (mo : St → Nat → St) (can : St → Nat → Bool) (code : St → Int) (L1 : List Nd) (k i : Nat) (L : List Nd) : List Nd := match L1[k]? with
 | none => L
 | some x => if can x.s i = true then
   setN (addW (grow L1 (plc (codes code L1) (code (mo x.s i)) 0) (newNd x (mo x.s i) k i)) k (atOf L1 (plc (codes code L1) (code (mo x.s i)) 0))) k i (atOf L1 (plc (codes code L1) (code (mo x.s i)) 0))
  else L1
theorem stepN_eq (mo : St → Nat → St) (can : St → Nat → Bool) (code : St → Int) (L : List Nd) (k i : Nat) (x : Nd) (hx : L[k]? = some x) : stepN mo can code L k i = step1 mo can code (L.set k (x.next i (-1))) k i L := by
 have h : setN L k i (-1) = L.set k (x.next i (-1)) := by
  unfold setN
  rw [hx]
 unfold stepN step1
 rw [h]
 rfl
theorem step1_no {mo : St → Nat → St} {can : St → Nat → Bool} {code : St → Int} {L1 L : List Nd} {k i : Nat} {x : Nd} (hx : L1[k]? = some x) (hc : can x.s i = false) : step1 mo can code L1 k i L = L1 := by
 unfold step1
 rw [hx]
 simp [hc]
theorem step1_yes {mo : St → Nat → St} {can : St → Nat → Bool} {code : St → Int} {L1 L : List Nd} {k i : Nat} {x : Nd} {u : St} {p : Int} (hx : L1[k]? = some x) (hc : can x.s i = true) (hu : u = mo x.s i) (hp : p = plc (codes code L1) (code u) 0) : step1 mo can code L1 k i L = setN (addW (grow L1 p (newNd x u k i)) k (atOf L1 p)) k i (atOf L1 p) := by
 subst hu hp
 unfold step1
 rw [hx]
 simp [hc]
theorem at_lt {code : St → Int} {L1 : List Nd} {p : Int} {u : St} (y : Nd) (hp : p = plc (codes code L1) (code u) 0) : atOf L1 p < (grow L1 p y).length := by
 have h := plc_in (codes code L1) (code u) 0
 rw [← hp, List.length_map] at h
 unfold atOf grow
 split
 ·simp
 ·omega
theorem addW_yes {N : List Nd} {k a : Nat} {y z : Nd} (hy : N[a]? = some y) (hz : N[k]? = some z) (h : y.far = IntKind.i64.wrap (z.far + 1)) : addW N k a = N.set a { y with words := IntKind.i64.wrap (y.words + z.words) } := by
 unfold addW
 rw [hy, hz]
 exact if_pos h
theorem addW_no {N : List Nd} {k a : Nat} {y z : Nd} (hy : N[a]? = some y) (hz : N[k]? = some z) (h : ¬ y.far = IntKind.i64.wrap (z.far + 1)) : addW N k a = N := by
 unfold addW
 rw [hy, hz]
 exact if_neg h
theorem setN_eq {N : List Nd} {k i : Nat} {v : Int} {z : Nd} (hz : N[k]? = some z) : setN N k i v = N.set k (z.next i v) := by
 unfold setN
 rw [hz]
theorem fromN_pos (mo : St → Nat → St) (can : St → Nat → Bool) (code : St → Int) : ∀ (f : Nat) (L : List Nd) (k : Nat), 0 < L.length → 0 < (fromN mo can code f L k).length
 | 0, L, k, h => h
 | f + 1, L, k, h => by
  unfold fromN
  split
  ·exact fromN_pos mo can code f _ _ (Nat.lt_of_lt_of_le h (someN_len mo can code L k 4))
  ·exact h
def wya.T10 : Bool × List (List Nat × List Nat) := (true, [([], []), ([], []), ([], []), ([1, 2], [1, 2]), ([3], [3]), ([4], [4]), ([], []), ([0, 5, 6], [0, 5, 6]), ([7], [7]), ([8], [8]), ([8], [8]), ([], []), ([11, 9, 7, 0, 1, 2, 3, 4, 5, 6, 7, 8, 9, 11], [9, 11]), ([10, 12, 0, 1, 2, 3, 4, 5, 6, 7, 8, 9, 10, 11, 12], [10])])
def wya.B10 : List Nat := [0, 0, 0, 6, 14, 30, 0, 127, 255, 511, 511, 0, 3071, 8191]
theorem wya.tab10 : rtab .any (opsOf Tryd.f25 10) = wya.T10 := by kernel_rfl
theorem wya.bits10 : waitsOk wya.T10.2 wya.B10 = true := by kernel_rfl
def wya.T15 : Bool × List (List Nat × List Nat) := (true, [([], []), ([], []), ([], []), ([], []), ([2, 3], [2, 3]), ([4], [4]), ([5], [5]), ([6], [6]), ([], []), ([], []), ([1, 7, 8, 9], [1, 7, 8, 9]), ([10], [10]), ([0, 11], [0, 11]), ([12, 12, 0, 1, 2, 3, 4, 5, 6, 7, 8, 9, 10, 11, 12], [0, 2, 12])])
def wya.B15 : List Nat := [0, 0, 0, 0, 12, 28, 60, 124, 0, 0, 1022, 2046, 4095, 8191]
theorem wya.tab15 : rtab .any (opsOf Tryd.f25 15) = wya.T15 := by kernel_rfl
theorem wya.bits15 : waitsOk wya.T15.2 wya.B15 = true := by kernel_rfl
def wya.T17 : Bool × List (List Nat × List Nat) := (true, [([], []), ([], []), ([0, 1], [0, 1]), ([2], [2]), ([3], [3]), ([], []), ([], []), ([5, 6], [5, 6]), ([7], [7]), ([8], [8]), ([9], [9]), ([4, 10], [4, 10])])
def wya.B17 : List Nat := [0, 0, 3, 7, 15, 0, 0, 96, 224, 480, 992, 2047]
theorem wya.tab17 : rtab .any (opsOf Tryd.f25 17) = wya.T17 := by kernel_rfl
theorem wya.bits17 : waitsOk wya.T17.2 wya.B17 = true := by kernel_rfl
def wya.T18 : Bool × List (List Nat × List Nat) := (true, [([], []), ([], []), ([0, 1], [0, 1]), ([2], [2]), ([3], [3]), ([], []), ([], []), ([5, 6], [5, 6]), ([7], [7]), ([8], [8]), ([4, 9], [4, 9]), ([0, 1, 0, 1, 2, 3, 4, 5, 6, 7, 8, 9, 10], [0, 1]), ([11, 0, 1, 2, 3, 4, 5, 6, 7, 8, 9, 10], [11]), ([12, 10, 0, 1, 2, 3, 4, 5, 6, 7, 8, 9, 10], [10, 12])])
def wya.B18 : List Nat := [0, 0, 3, 7, 15, 0, 0, 96, 224, 480, 1023, 2047, 4095, 8191]
theorem wya.tab18 : rtab .any (opsOf Tryd.f25 18) = wya.T18 := by kernel_rfl
theorem wya.bits18 : waitsOk wya.T18.2 wya.B18 = true := by kernel_rfl
set_option maxHeartbeats 8000000 in
set_option maxRecDepth 100000 in
theorem wyAll_walk (gw gh : Int) (A0 : Option Addr) (nl c0 : Nat) (s0 : St) (mo : St → Nat → St) (can : St → Nat → Bool) (code : St → Int) (Gd : St → Prop) (Iv : List Nd → Nat → Nat → Prop) (w : World) (hs0 : Gd s0)
  (hroll : ∀ (t : St) (i : Nat), Gd t → i < 4 → ∀ W, Below w.heap.size w W → Calls Tryd.prog 39 #[.agg #[.int .i64 gw, .int .i64 gh, .slice A0 nl c0], .agg (st8 t), .int .i64 (i : Int)] W fun e w' => e = .returned (.tuple #[.agg (st8 (mo t i)), .bool (can t i)]) ∧ Below W.heap.size W w')
  (hcode : ∀ t, Gd t → ∀ W, Below w.heap.size w W → Calls Tryd.prog 38 #[.agg #[.int .i64 gw, .int .i64 gh, .slice A0 nl c0], .agg (st8 t)] W fun e w' => e = .returned (.int .i64 (code t)) ∧ Below W.heap.size W w')
  (hplace : ∀ (A : Option Addr) (c : Nat) (l : List Int) (x : Int) (W : World), Kd.C (Kd.int .i64) W A l.length l → l.length ≤ c → l.length ≤ 1000 → Calls Tryd.prog 40 #[.slice A l.length c, .int .i64 x] W fun e w' => e = .returned (.int .i64 (plc l x 0)) ∧ Below W.heap.size W w')
  (hgd : ∀ (t : St) (i : Nat), Gd t → i < 4 → can t i = true → Gd (mo t i)) (hiv : Ivs mo can code Gd s0 Iv) :
  Calls Tryd.prog 25 #[.agg #[.int .i64 gw, .int .i64 gh, .slice A0 nl c0], .agg (st8 s0)] w fun e w' =>
   ∃ v, e = .returned v ∧ Kd.R kNd 44 w' w.heap.size (fun _ => True) v ((fromN mo can code 1001 [nd0 s0] 0).map sNd) ∧ Below w.heap.size w w' := by
 have hu50 := Tryd.underlying73
 have hu30 := Tryd.underlying30
 have hu69 := Tryd.underlying44
 have HROLL := hid hroll
 have HCODE := hid hcode
 have HPLACE := hid hplace
 have HGD := hid hgd
 have HIV := hid hiv
 have HS0 := hid hs0
 clear hroll hcode hplace hgd hiv hs0
 have HB := hid (Below.refl w.heap.size w)
 go_enter Tryd.func25, Tryd.ntmps25
 go_wp2_with (first | ((with_reducible refine gate_dst (N := 2) rfl ?_); refine box_event ?hg (N := 2) ?hd (cs := #[.int .i64 gw, .int .i64 gh, .slice A0 nl c0]) (t := 73) ?hr ?_; (case hd => rfl); (case hg => rfl); (case hr => first | (go_simp; done) | (go_simp; rfl)); intro G hg w1 hbox hb; have HG := hid (by rw [hg]; exact below_size (by repeat (first | (with_reducible first | exact HB.out | apply below_alloc | apply pw_below_drewN | apply below_drew1) | exact HB.out)) : w.heap.size ≤ G); have n_HB := hid (below_step (by repeat (first | (with_reducible first | exact HB.out | apply below_alloc | apply pw_below_drewN | apply below_drew1) | exact HB.out)) hb); have n_GB := hid (hbox); (try clear HB); (try clear GB); have HB := n_HB; have GB := n_GB; clear n_HB n_GB; clear hb hbox hg) | ((with_reducible refine gate_dst (N := 3) rfl ?_); refine box_event ?hg (N := 3) ?hd (cs := st8 s0) (t := 30) ?hr ?_; (case hd => rfl); (case hg => rfl); (case hr => first | (go_simp; done) | (go_simp; rfl)); intro Sb hg w2 hbox hb; have HSb := hid (by rw [hg]; exact below_size (by repeat (first | (with_reducible first | exact HB.out | apply below_alloc | apply pw_below_drewN | apply below_drew1) | exact HB.out)) : w.heap.size ≤ Sb); have n_GB := hid (blk_below (by (with_reducible repeat (first | refine blk_drewN ?_ _ | refine blk_drew ?_ | refine blk_alloc ?_ _)); exact GB.out) hb); have n_HB := hid (below_step (by repeat (first | (with_reducible first | exact HB.out | apply below_alloc | apply pw_below_drewN | apply below_drew1) | exact HB.out)) hb); have n_BS := hid (hbox); (try clear GB); (try clear HB); (try clear BS); have GB := n_GB; have HB := n_HB; have BS := n_BS; clear n_GB n_HB n_BS; clear hb hbox hg; have hs0 : w2.cell? ⟨Sb, 0, none⟩ = some (.int .i64 s0.x) := blk_cell BS.out 0; have hs1 : w2.cell? ⟨Sb, 1, none⟩ = some (.int .i64 s0.y) := blk_cell BS.out 1; have hs2 : w2.cell? ⟨Sb, 2, none⟩ = some (.int .i64 s0.d.t) := blk_cell BS.out 2; have hs3 : w2.cell? ⟨Sb, 3, none⟩ = some (.int .i64 s0.d.n) := blk_cell BS.out 3; have hs4 : w2.cell? ⟨Sb, 4, none⟩ = some (.int .i64 s0.d.e) := blk_cell BS.out 4; have hs5 : w2.cell? ⟨Sb, 5, none⟩ = some (.int .i64 s0.d.s) := blk_cell BS.out 5; have hs6 : w2.cell? ⟨Sb, 6, none⟩ = some (.int .i64 s0.d.w) := blk_cell BS.out 6; have hs7 : w2.cell? ⟨Sb, 7, none⟩ = some (.int .i64 s0.d.b) := blk_cell BS.out 7) | ((with_reducible refine gate_dst (N := 14) rfl ?_); refine Kd.R_lit kNd _ 44 ?hg (N := 14) ?hd (xs := [sNd (nd0 s0)]) (inner := nd16 (nd0 s0)) (ok := fun _ => True) (okp := fun _ => True) ?hr ?hp (fun _ hk => hk) trivial (Below.refl _ _) (Nat.le_refl _) (by simp) ?_; (case hd => rfl); (case hg => rfl); (case hr => first | (go_simp; done) | (go_simp; rfl)); (case hp => exact (Reps.front (show Kd.M kNd _ _ _ (sNd (nd0 s0)) (nd16 (nd0 s0)) from (k44_mkM _ _ _ (sNd (nd0 s0)))) rfl (Reps.none _ _) rfl)); intro v5 w3 ho hb hg_ hnew_; clear hg_ hnew_; have n_GB := hid (blk_below (by (with_reducible repeat (first | refine blk_drewN ?_ _ | refine blk_drew ?_ | refine blk_alloc ?_ _)); exact GB.out) hb); have n_BS := hid (blk_below (by (with_reducible repeat (first | refine blk_drewN ?_ _ | refine blk_drew ?_ | refine blk_alloc ?_ _)); exact BS.out) hb); have n_R5 := hid (Kd.R_lower ho (below_size (by repeat (first | (with_reducible first | exact HB.out | apply below_alloc | apply pw_below_drewN | apply below_drew1) | exact HB.out)))); have n_HB := hid (below_step (by repeat (first | (with_reducible first | exact HB.out | apply below_alloc | apply pw_below_drewN | apply below_drew1) | exact HB.out)) hb); (try clear GB); (try clear BS); (try clear R5); (try clear HB); have GB := n_GB; have BS := n_BS; have R5 := n_R5; have HB := n_HB; clear n_GB n_BS n_R5 n_HB; clear hb ho; have ht0 : w3.cell? ⟨Sb, 0, none⟩ = some (.int .i64 s0.x) := blk_cell BS.out 0; have ht1 : w3.cell? ⟨Sb, 1, none⟩ = some (.int .i64 s0.y) := blk_cell BS.out 1; have ht2 : w3.cell? ⟨Sb, 2, none⟩ = some (.int .i64 s0.d.t) := blk_cell BS.out 2; have ht3 : w3.cell? ⟨Sb, 3, none⟩ = some (.int .i64 s0.d.n) := blk_cell BS.out 3; have ht4 : w3.cell? ⟨Sb, 4, none⟩ = some (.int .i64 s0.d.e) := blk_cell BS.out 4; have ht5 : w3.cell? ⟨Sb, 5, none⟩ = some (.int .i64 s0.d.s) := blk_cell BS.out 5; have ht6 : w3.cell? ⟨Sb, 6, none⟩ = some (.int .i64 s0.d.w) := blk_cell BS.out 6; have ht7 : w3.cell? ⟨Sb, 7, none⟩ = some (.int .i64 s0.d.b) := blk_cell BS.out 7; have hg0 : w3.cell? ⟨G, 0, none⟩ = some (.int .i64 gw) := blk_cell GB.out 0; have hg1 : w3.cell? ⟨G, 1, none⟩ = some (.int .i64 gh) := blk_cell GB.out 1; have hg2 : w3.cell? ⟨G, 2, none⟩ = some (.slice A0 nl c0) := blk_cell GB.out 2) | ((with_reducible refine gate_callee (f := 38) rfl ?_); refine goesL_ (some 17) rfl rfl Tryd.func38 (by kernel_rfl) rfl #[.agg #[.int .i64 gw, .int .i64 gh, .slice A0 nl c0], .agg (st8 s0)] rfl (by (try simp only [List.map_toArray, List.map_cons, List.map_nil]); first | done | rfl | (simp only [List.length_drop, List.length_take]; rfl)) ?_; (with_reducible refine (HCODE.out s0 HS0.out _ (by repeat (first | (with_reducible first | exact HB.out | apply below_alloc | apply pw_below_drewN | apply below_drew1) | exact HB.out))).mono ?_); rintro e w4 ⟨rfl, hb⟩; refine ⟨_, rfl, ?_⟩; have n_R5 := hid (Kd.R_below (by (with_reducible repeat (first | apply Kd.R_alloc | apply Kd.R_drewN | apply Kd.R_drew)); exact R5.out) hb); have n_GB := hid (blk_below (by (with_reducible repeat (first | refine blk_drewN ?_ _ | refine blk_drew ?_ | refine blk_alloc ?_ _)); exact GB.out) hb); have n_BS := hid (blk_below (by (with_reducible repeat (first | refine blk_drewN ?_ _ | refine blk_drew ?_ | refine blk_alloc ?_ _)); exact BS.out) hb); have n_HB := hid (below_step (by repeat (first | (with_reducible first | exact HB.out | apply below_alloc | apply pw_below_drewN | apply below_drew1) | exact HB.out)) hb); (try clear R5); (try clear GB); (try clear BS); (try clear HB); have R5 := n_R5; have GB := n_GB; have BS := n_BS; have HB := n_HB; clear n_R5 n_GB n_BS n_HB; clear hb) | ((with_reducible refine gate_dst (N := 18) rfl ?_); refine Kd.R_lit (Kd.int .i64) _ 3 ?hg (N := 18) ?hd (xs := [code s0]) (inner := [.int .i64 (code s0)]) (ok := fun _ => True) (okp := fun _ => True) ?hr ?hp (fun _ hk => hk) trivial (Below.refl _ _) (Nat.le_refl _) (by simp) ?_; (case hd => rfl); (case hg => rfl); (case hr => first | (go_simp; done) | (go_simp; rfl)); (case hp => exact (Reps.one (show Kd.M (Kd.int .i64) _ _ _ (code s0) [.int .i64 (code s0)] from rfl) (Reps.none _ _))); intro v6 w5 ho hb hg_ hnew_; clear hg_ hnew_; have n_R5 := hid (Kd.R_below (by (with_reducible repeat (first | apply Kd.R_alloc | apply Kd.R_drewN | apply Kd.R_drew)); exact R5.out) hb); have n_GB := hid (blk_below (by (with_reducible repeat (first | refine blk_drewN ?_ _ | refine blk_drew ?_ | refine blk_alloc ?_ _)); exact GB.out) hb); have n_BS := hid (blk_below (by (with_reducible repeat (first | refine blk_drewN ?_ _ | refine blk_drew ?_ | refine blk_alloc ?_ _)); exact BS.out) hb); have n_R6 := hid (Kd.R_lower ho (below_size (by repeat (first | (with_reducible first | exact HB.out | apply below_alloc | apply pw_below_drewN | apply below_drew1) | exact HB.out)))); have n_HB := hid (below_step (by repeat (first | (with_reducible first | exact HB.out | apply below_alloc | apply pw_below_drewN | apply below_drew1) | exact HB.out)) hb); (try clear R5); (try clear GB); (try clear BS); (try clear R6); (try clear HB); have R5 := n_R5; have GB := n_GB; have BS := n_BS; have R6 := n_R6; have HB := n_HB; clear n_R5 n_GB n_BS n_R6 n_HB; clear hb ho))
 have H0 := hid (show RN w _ G gw gh A0 nl c0 code [nd0 s0] v5 v6 from ⟨R5.out, R6.out, GB.out, HG.out, HB.out⟩)
 clear R5 R6 GB HB BS
 go_loopw [5, 6, 7] (fun v5 v6 v7 wr => ∃ (k : Nat) (L : List Nd), v7 = .int .i64 (k : Int) ∧ AtN mo can code s0 Iv w wr G gw gh A0 nl c0 L k v5 v6) (fun v5 v6 v7 _ => 1001 - (intOf v7).toNat)
 case atStart => exact ⟨0, _, rfl, H0.out, HIV.out.start, by simp, rfl⟩
 case round =>
  clear H0
  obtain ⟨k, L, rfl, hat⟩ := hrel
  have HA := hid hat
  clear hat
  have hls := HIV.out.small _ _ _ HA.out.iv
  by_cases hlt : k < L.length
  ·have h0 := HA.out.rn
   obtain ⟨b5, c5, hv5, _, _⟩ := R_form h0.r5 (by simp; omega)
   obtain ⟨n, hn⟩ : ∃ n, n = (L.map sNd).length := ⟨_, rfl⟩
   rw [← hn] at hv5
   subst hv5
   have hkn : (k : Int) < (n : Int) := by
    rw [hn, List.length_map]
    omega
   clear h0 hn
   go_wp2_with fail
   clear hkn
   go_loopw [5, 6, 8] (fun v5 v6 v8 wi => ∃ i : Nat, v8 = .int .i64 (i : Int) ∧ i ≤ 4 ∧ RN w wi G gw gh A0 nl c0 code (someN mo can code L k i) v5 v6) (fun v5 v6 v8 _ => 4 - (intOf v8).toNat)
   case atStart => exact ⟨0, rfl, by omega, HA.out.rn⟩
   case round =>
    obtain ⟨i, rfl, hi, hrn⟩ := hrel
    have HR := hid hrn
    clear hrn
    by_cases hi4 : i < 4
    ·have hr := HR.out
     have hin := HIV.out.some HA.out.iv hlt i hi
     have hkl : k < (someN mo can code L k i).length := Nat.lt_of_lt_of_le hlt (someN_len mo can code L k i)
     have hin2 := HIV.out.step _ _ _ hin hkl hi4
     have hls2 := HIV.out.small _ _ _ hin
     have hgd1 := HIV.out.good _ _ _ hin
     obtain ⟨x, hx⟩ : ∃ x, (someN mo can code L k i)[k]? = some x := ⟨_, List.getElem?_eq_getElem hkl⟩
     obtain ⟨M, hM⟩ : ∃ M, M = someN mo can code L k i := ⟨_, rfl⟩
     have hnx : someN mo can code L k (i + 1) = stepN mo can code M k i := by rw [hM]; rfl
     have HNX := hid hnx
     rw [← hM] at hr hin hkl hin2 hls2 hgd1 hx
     have hgx : Gd x.s := hgd1 x (List.mem_of_getElem? hx)
     have HGX := hid hgx
     obtain ⟨b5, c5, hv5, _, _⟩ := R_form hr.r5 (by simp; omega)
     obtain ⟨b6, c6, hv6, _, _⟩ := R_form hr.r6 (by simp; omega)
     rw [List.length_map] at hv5 hv6
     obtain ⟨n, hn⟩ : ∃ n, n = M.length := ⟨_, rfl⟩
     rw [← hn] at hv5 hv6 hkl hls2
     subst hv5 hv6
     have R5 := hid hr.r5
     have R6 := hid hr.r6
     have GB := hid hr.blk
     have HG := hid hr.big
     have HB := hid hr.bel
     have HN := hid hn
     have HX := hid hx
     clear hr HR hM hnx hgd1 hgx hn hin hin2
     have hkn : (k : Int) < (n : Int) := by omega
     have hat_ := nd_at R5.out k (12 + i) x HX.out (by omega)
     simp only [← Nat.add_assoc] at hat_
     obtain ⟨⟨ov, hov⟩, hof⟩ := hat_
     have hput_ := nd_put R5.out k (12 + i) (-1) x (x.next i (-1)) HX.out (by omega) (nd_next x i hi4 (-1))
     simp only [← Nat.add_assoc] at hput_
     have HP := hid hput_
     clear hput_ hx
     go_upto_region 10 with fail
     have n_R5 := hid (HP.out.1)
     have n_R6 := hid (Kd.R_over' (v := (.slice (some ⟨b5, 0, none⟩) n c5)) R6.out (Kd.R_typed R5.out) (by decide) HP.out.2)
     have n_GB := hid (blk_grown GB.out HP.out.2 (Kd.R_ne R5.out GB.out (by decide)))
     have n_HB := hid (show Below w.heap.size w (World.setCell wr ⟨b5, k * 16 + 12 + i, none⟩ (.int .i64 (-1))) from below_set HB.out (R_big R5.out))
     (try clear R5)
     (try clear R6)
     (try clear GB)
     (try clear HB)
     have R5 := n_R5
     have R6 := n_R6
     have GB := n_GB
     have HB := n_HB
     clear n_R5 n_R6 n_GB n_HB
     clear HP
     generalize World.setCell _ _ _ = w9 at R5 R6 GB HB ⊢
     clear hkn hov hof
     obtain ⟨L1, hL1⟩ : ∃ L1, L1 = M.set k (x.next i (-1)) := ⟨_, rfl⟩
     have hcs : codes code (M.set k (x.next i (-1))) = codes code M := codes_set code M k x _ HX.out (next_s x i (-1))
     rw [← hL1] at R5 hcs
     rw [← hcs] at R6
     obtain ⟨x1, hx1⟩ : ∃ x1, x1 = x.next i (-1) := ⟨_, rfl⟩
     have HX1 := hid (show L1[k]? = some x1 by rw [hL1, List.getElem?_set_self (by rw [← HN.out]; omega), hx1])
     have hxs : x1.s = x.s := by rw [hx1]; exact next_s x i (-1)
     have HGX1 := hid (show Gd x1.s by rw [hxs]; exact HGX.out)
     have HN1 := hid (show n = L1.length by rw [hL1, List.length_set]; exact HN.out)
     have HST := hid (show stepN mo can code M k i = step1 mo can code L1 k i M by rw [hL1]; exact stepN_eq mo can code M k i x HX.out)
     obtain ⟨u, hu⟩ : ∃ u, u = mo x1.s i := ⟨_, rfl⟩
     obtain ⟨cn, hcn⟩ : ∃ cn, cn = can x1.s i := ⟨_, rfl⟩
     have HMV := hid (fun W hW => HROLL.out x1.s i HGX1.out hi4 W hW)
     rw [← hu, ← hcn] at HMV
     have HU := hid hu
     have HCN := hid hcn
     clear hL1 hcs hx1 hxs hu hcn HX HGX HN
     refine start_ (n := 14) (S := fun w' => True) (ds := []) #[ff, ff, ff, ff, ff, ff, ff, ff, ff, ff, ff, ff, ff, ff] (by kernel_rfl) rfl rfl trivial (fun hHeld => ?_)
     refine with_tabW wya.tab10 wya.bits10 (fun HT_ HW_ => ?_)
     have n_HB := hid (below_drew HB.out)
     have n_GB := hid (blk_drew GB.out)
     have n_R5 := hid (Kd.R_drew R5.out)
     have n_R6 := hid (Kd.R_drew R6.out)
     clear HB GB R5 R6
     have HB := n_HB
     have GB := n_GB
     have R5 := n_R5
     have R6 := n_R6
     clear n_HB n_GB n_R5 n_R6
     generalize World.drew _ = w10 at HB GB R5 R6 hHeld ⊢
     refine pure_ (i := 1) (N := some 37) (v := ?_) (a' := ?_) #[ff, tt, ff, ff, ff, ff, ff, ff, ff, ff, ff, ff, ff, ff] rfl rfl (any_of HT_.out (by kernel_rfl)) (fun _ _ _ h => h) (Or.inl ⟨by rfl, ?_⟩) ?_ ?_
     rotate_left
     ·intro w'
      go_simp
      with_reducible rfl
     rotate_left
     ·simp only [Act.put, List.setIfInBounds_toArray, List.set_cons_zero, List.set_cons_succ, i64_w, i32_w]
      rfl
     refine pure_ (i := 2) (N := some 38) (v := ?_) (a' := ?_) #[ff, tt, tt, ff, ff, ff, ff, ff, ff, ff, ff, ff, ff, ff] rfl rfl (any_of HT_.out (by kernel_rfl)) (fun _ _ _ h => h) (Or.inl ⟨by rfl, ?_⟩) ?_ ?_
     rotate_left
     ·intro w'
      go_simp
      with_reducible rfl
     rotate_left
     ·simp only [Act.put, List.setIfInBounds_toArray, List.set_cons_zero, List.set_cons_succ, i64_w, i32_w]
      rfl
     refine pure_ (i := 6) (N := some 42) (v := ?_) (a' := ?_) #[ff, tt, tt, ff, ff, ff, tt, ff, ff, ff, ff, ff, ff, ff] rfl rfl (any_of HT_.out (by kernel_rfl)) (fun _ _ _ h => h) (Or.inl ⟨by rfl, ?_⟩) ?_ ?_
     rotate_left
     ·intro w'
      go_simp
      with_reducible rfl
     rotate_left
     ·simp only [Act.put, List.setIfInBounds_toArray, List.set_cons_zero, List.set_cons_succ, i64_w, i32_w]
      rfl
     refine inv_at [0, 3, 4, 5, 7, 8, 9, 10, 11, 12, 13] (fun a0_ b a w' => ∃ (go_ : Nat) (m11_ : Value), a = putSel a0_ b [(0, 36, .agg #[.int .i64 gw, .int .i64 gh, .slice A0 nl c0]), (3, 39, .pointer (some ⟨b5, k * 16, none⟩)), (4, 40, .pointer (some ⟨b5, k * 16, none⟩)), (5, 41, .agg #[.int .i64 x1.s.x, .int .i64 x1.s.y, .int .i64 x1.s.d.t, .int .i64 x1.s.d.n, .int .i64 x1.s.d.e, .int .i64 x1.s.d.s, .int .i64 x1.s.d.w, .int .i64 x1.s.d.b]), (7, 43, .tuple #[.agg #[.int .i64 u.x, .int .i64 u.y, .int .i64 u.d.t, .int .i64 u.d.n, .int .i64 u.d.e, .int .i64 u.d.s, .int .i64 u.d.w, .int .i64 u.d.b], .bool cn]), (8, 35, .tuple #[.agg #[.int .i64 u.x, .int .i64 u.y, .int .i64 u.d.t, .int .i64 u.d.n, .int .i64 u.d.e, .int .i64 u.d.s, .int .i64 u.d.w, .int .i64 u.d.b], .bool cn]), (9, 44, .agg #[.int .i64 u.x, .int .i64 u.y, .int .i64 u.d.t, .int .i64 u.d.n, .int .i64 u.d.e, .int .i64 u.d.s, .int .i64 u.d.w, .int .i64 u.d.b]), (10, 45, .bool cn), (11, 9, m11_), (13, 10, .bool cn)] ∧ (Below w.heap.size w w') ∧ (w'.heap[G]? = some (.cells #[.int .i64 gw, .int .i64 gh, .slice A0 nl c0] 73 (0, 0))) ∧ (Kd.R kNd 44 w' w.heap.size (fun _ => True) (.slice (some ⟨b5, 0, none⟩) n c5) (L1.map sNd)) ∧ (Kd.R (Kd.int .i64) 3 w' w.heap.size (fun _ => True) (.slice (some ⟨b6, 0, none⟩) n c6) (codes code L1)) ∧ (b 11 = true → b 12 = false → w'.heap[go_]? = some (.cells #[.int .i64 0, .int .i64 0, .int .i64 0, .int .i64 0, .int .i64 0, .int .i64 0, .int .i64 0, .int .i64 0] 30 (0, 0)) ∧ w.heap.size ≤ go_) ∧ (b 12 = true → w'.heap[go_]? = some (.cells (st8 u) 30 (0, 0)) ∧ w.heap.size ≤ go_) ∧ (b 11 = true → (m11_ : Value) = .pointer (some ⟨go_, 0, none⟩))) HT_.out HW_.out (by kernel_rfl) (by kernel_rfl) ?_ ?_ ?_
     ·exact ⟨0, .bool false, by simp only [putSel, Bool.false_eq_true, if_false], HB.out, GB.out, R5.out, R6.out, fun h_ => absurd h_ (by decide), fun h_ => absurd h_ (by decide), fun h_ => absurd h_ (by decide)⟩
     ·skip
      clear GB HB R5 R6
      refine steps_cons ?_ ?_
      ·rintro b a w' ⟨go_, m11_, ha, Q_HB, Q_GB, Q_R5, Q_R6, Q_Z0, Q_BO, Q_X11_⟩ hb_ hon hoff
       refine ⟨_, rfl, fun K hK => ?_⟩
       have e2 : a.tmps[2]? = some (.pointer (some ⟨G, 0, none⟩)) := by rw [ha]; exact (putSel_off rfl).trans rfl
       replace ha := am ha
       have HB := am Q_HB
       have GB := am Q_GB
       have R5 := am Q_R5
       have R6 := am Q_R6
       have hv0 : w'.cell? ⟨G, 0, none⟩ = some (.int .i64 gw) := blk_cell GB.out 0
       have hv1 : w'.cell? ⟨G, 1, none⟩ = some (.int .i64 gh) := blk_cell GB.out 1
       have hv2 : w'.cell? ⟨G, 2, none⟩ = some (.slice A0 nl c0) := blk_cell GB.out 2
       refine value_ (w1 := w') (v := .agg #[.int .i64 gw, .int .i64 gh, .slice A0 nl c0]) (by rfl) rfl ?_ ?_
       ·go_simp
        (try simp only [i64_w])
        try rfl
       refine hK.out _ _ ⟨go_, m11_, (by rw [ha.out]; exact putSel_upk 0 hb_ rfl rfl rfl), Q_HB, Q_GB, Q_R5, Q_R6, Q_Z0, fun h0_ => absurd ((hoff 12 (by kernel_rfl)).symm.trans h0_) (by decide), Q_X11_⟩
      refine steps_cons ?_ ?_
      ·rintro b a w' ⟨go_, m11_, ha, Q_HB, Q_GB, Q_R5, Q_R6, Q_Z0, Q_BO, Q_X11_⟩ hb_ hon hoff
       refine ⟨_, rfl, fun K hK => ?_⟩
       have e37 : a.tmps[37]? = some (.slice (some ⟨b5, 0, none⟩) n c5) := by rw [ha]; exact (putSel_off rfl).trans rfl
       have e38 : a.tmps[38]? = some (.int .i64 (k : Int)) := by rw [ha]; exact (putSel_off rfl).trans rfl
       replace ha := am ha
       have HB := am Q_HB
       have GB := am Q_GB
       have R5 := am Q_R5
       have R6 := am Q_R6
       have hk_ : (k : Int) < (n : Int) := by omega
       refine value_ (w1 := w') (v := .pointer (some ⟨b5, k * 16, none⟩)) (by rfl) rfl ?_ ?_
       ·go_simp
        (try simp only [i64_w])
        try rfl
       refine hK.out _ _ ⟨go_, m11_, (by rw [ha.out]; exact putSel_upk 1 hb_ rfl rfl rfl), Q_HB, Q_GB, Q_R5, Q_R6, Q_Z0, fun h0_ => absurd ((hoff 12 (by kernel_rfl)).symm.trans h0_) (by decide), Q_X11_⟩
      refine steps_cons ?_ ?_
      ·rintro b a w' ⟨go_, m11_, ha, Q_HB, Q_GB, Q_R5, Q_R6, Q_Z0, Q_BO, Q_X11_⟩ hb_ hon hoff
       refine ⟨_, rfl, fun K hK => ?_⟩
       have e39 : a.tmps[39]? = some (.pointer (some ⟨b5, k * 16, none⟩)) := by rw [ha]; exact putSel_on (e := (3, 39, .pointer (some ⟨b5, k * 16, none⟩))) 1 rfl rfl (hon 3 (by kernel_rfl)) rfl
       replace ha := am ha
       have HB := am Q_HB
       have GB := am Q_GB
       have R5 := am Q_R5
       have R6 := am Q_R6
       refine value_ (w1 := w') (v := .pointer (some ⟨b5, k * 16, none⟩)) (by rfl) rfl ?_ ?_
       ·go_simp
        (try simp only [i64_w])
        try rfl
       refine hK.out _ _ ⟨go_, m11_, (by rw [ha.out]; exact putSel_upk 2 hb_ rfl rfl rfl), Q_HB, Q_GB, Q_R5, Q_R6, Q_Z0, fun h0_ => absurd ((hoff 12 (by kernel_rfl)).symm.trans h0_) (by decide), Q_X11_⟩
      refine steps_cons ?_ ?_
      ·rintro b a w' ⟨go_, m11_, ha, Q_HB, Q_GB, Q_R5, Q_R6, Q_Z0, Q_BO, Q_X11_⟩ hb_ hon hoff
       refine ⟨_, rfl, fun K hK => ?_⟩
       have e40 : a.tmps[40]? = some (.pointer (some ⟨b5, k * 16, none⟩)) := by rw [ha]; exact putSel_on (e := (4, 40, .pointer (some ⟨b5, k * 16, none⟩))) 2 rfl rfl (hon 4 (by kernel_rfl)) rfl
       replace ha := am ha
       have HB := am Q_HB
       have GB := am Q_GB
       have R5 := am Q_R5
       have R6 := am Q_R6
       have hq_ := (nd_elem R5.out k x1 HX1.out).1
       have s0 : w'.cell? ⟨b5, k * 16, none⟩ = some (.int .i64 x1.s.x) := hq_ 0 _ rfl
       have s1 : w'.cell? ⟨b5, k * 16 + 1, none⟩ = some (.int .i64 x1.s.y) := hq_ 1 _ rfl
       have s2 : w'.cell? ⟨b5, k * 16 + 2, none⟩ = some (.int .i64 x1.s.d.t) := hq_ 2 _ rfl
       have s3 : w'.cell? ⟨b5, k * 16 + 3, none⟩ = some (.int .i64 x1.s.d.n) := hq_ 3 _ rfl
       have s4 : w'.cell? ⟨b5, k * 16 + 4, none⟩ = some (.int .i64 x1.s.d.e) := hq_ 4 _ rfl
       have s5 : w'.cell? ⟨b5, k * 16 + 5, none⟩ = some (.int .i64 x1.s.d.s) := hq_ 5 _ rfl
       have s6 : w'.cell? ⟨b5, k * 16 + 6, none⟩ = some (.int .i64 x1.s.d.w) := hq_ 6 _ rfl
       have s7 : w'.cell? ⟨b5, k * 16 + 7, none⟩ = some (.int .i64 x1.s.d.b) := hq_ 7 _ rfl
       clear hq_
       refine value_ (w1 := w') (v := .agg #[.int .i64 x1.s.x, .int .i64 x1.s.y, .int .i64 x1.s.d.t, .int .i64 x1.s.d.n, .int .i64 x1.s.d.e, .int .i64 x1.s.d.s, .int .i64 x1.s.d.w, .int .i64 x1.s.d.b]) (by rfl) rfl ?_ ?_
       ·go_simp
        (try simp only [i64_w])
        try rfl
       refine hK.out _ _ ⟨go_, m11_, (by rw [ha.out]; exact putSel_upk 3 hb_ rfl rfl rfl), Q_HB, Q_GB, Q_R5, Q_R6, Q_Z0, fun h0_ => absurd ((hoff 12 (by kernel_rfl)).symm.trans h0_) (by decide), Q_X11_⟩
      refine steps_cons ?_ ?_
      ·rintro b a w' ⟨go_, m11_, ha, Q_HB, Q_GB, Q_R5, Q_R6, Q_Z0, Q_BO, Q_X11_⟩ hb_ hon hoff
       refine ⟨_, rfl, fun K hK => ?_⟩
       have e36 : a.tmps[36]? = some (.agg #[.int .i64 gw, .int .i64 gh, .slice A0 nl c0]) := by rw [ha]; exact putSel_on (e := (0, 36, .agg #[.int .i64 gw, .int .i64 gh, .slice A0 nl c0])) 0 rfl rfl (hon 0 (by kernel_rfl)) rfl
       have e41 : a.tmps[41]? = some (.agg #[.int .i64 x1.s.x, .int .i64 x1.s.y, .int .i64 x1.s.d.t, .int .i64 x1.s.d.n, .int .i64 x1.s.d.e, .int .i64 x1.s.d.s, .int .i64 x1.s.d.w, .int .i64 x1.s.d.b]) := by rw [ha]; exact putSel_on (e := (5, 41, .agg #[.int .i64 x1.s.x, .int .i64 x1.s.y, .int .i64 x1.s.d.t, .int .i64 x1.s.d.n, .int .i64 x1.s.d.e, .int .i64 x1.s.d.s, .int .i64 x1.s.d.w, .int .i64 x1.s.d.b])) 3 rfl rfl (hon 5 (by kernel_rfl)) rfl
       have e42 : a.tmps[42]? = some (.int .i64 (i : Int)) := by rw [ha]; exact (putSel_off rfl).trans rfl
       replace ha := am ha
       have HB := am Q_HB
       have GB := am Q_GB
       have R5 := am Q_R5
       have R6 := am Q_R6
       refine call_ 39 #[.agg #[.int .i64 gw, .int .i64 gh, .slice A0 nl c0], .agg #[.int .i64 x1.s.x, .int .i64 x1.s.y, .int .i64 x1.s.d.t, .int .i64 x1.s.d.n, .int .i64 x1.s.d.e, .int .i64 x1.s.d.s, .int .i64 x1.s.d.w, .int .i64 x1.s.d.b], .int .i64 (i : Int)] (by rfl) rfl ?_ ?_
       ·go_simp
        (try rfl)
       with_reducible refine (HMV.out w' HB.out).mono ?_
       rintro e' w1 ⟨rfl, hb⟩
       refine ⟨_, rfl, ?_⟩
       refine hK.out _ _ ⟨go_, m11_, (by rw [ha.out]; exact putSel_upk 4 hb_ rfl rfl rfl), below_then HB.out HB.out.size hb, blk_below GB.out hb, Kd.R_below R5.out hb, Kd.R_below R6.out hb, fun h0_ h1_ => ⟨blk_below (Q_Z0 h0_ h1_).1 hb, (Q_Z0 h0_ h1_).2⟩, fun h0_ => absurd ((hoff 12 (by kernel_rfl)).symm.trans h0_) (by decide), Q_X11_⟩
      refine steps_cons ?_ ?_
      ·rintro b a w' ⟨go_, m11_, ha, Q_HB, Q_GB, Q_R5, Q_R6, Q_Z0, Q_BO, Q_X11_⟩ hb_ hon hoff
       refine ⟨_, rfl, fun K hK => ?_⟩
       have e43 : a.tmps[43]? = some (.tuple #[.agg #[.int .i64 u.x, .int .i64 u.y, .int .i64 u.d.t, .int .i64 u.d.n, .int .i64 u.d.e, .int .i64 u.d.s, .int .i64 u.d.w, .int .i64 u.d.b], .bool cn]) := by rw [ha]; exact putSel_on (e := (7, 43, .tuple #[.agg #[.int .i64 u.x, .int .i64 u.y, .int .i64 u.d.t, .int .i64 u.d.n, .int .i64 u.d.e, .int .i64 u.d.s, .int .i64 u.d.w, .int .i64 u.d.b], .bool cn])) 4 rfl rfl (hon 7 (by kernel_rfl)) rfl
       replace ha := am ha
       have HB := am Q_HB
       have GB := am Q_GB
       have R5 := am Q_R5
       have R6 := am Q_R6
       refine value_ (w1 := w') (v := .tuple #[.agg #[.int .i64 u.x, .int .i64 u.y, .int .i64 u.d.t, .int .i64 u.d.n, .int .i64 u.d.e, .int .i64 u.d.s, .int .i64 u.d.w, .int .i64 u.d.b], .bool cn]) (by rfl) rfl ?_ ?_
       ·go_simp
        (try simp only [i64_w])
        try rfl
       refine hK.out _ _ ⟨go_, m11_, (by rw [ha.out]; exact putSel_upk 5 hb_ rfl rfl rfl), Q_HB, Q_GB, Q_R5, Q_R6, Q_Z0, fun h0_ => absurd ((hoff 12 (by kernel_rfl)).symm.trans h0_) (by decide), Q_X11_⟩
      refine steps_cons ?_ ?_
      ·rintro b a w' ⟨go_, m11_, ha, Q_HB, Q_GB, Q_R5, Q_R6, Q_Z0, Q_BO, Q_X11_⟩ hb_ hon hoff
       refine ⟨_, rfl, fun K hK => ?_⟩
       have e35 : a.tmps[35]? = some (.tuple #[.agg #[.int .i64 u.x, .int .i64 u.y, .int .i64 u.d.t, .int .i64 u.d.n, .int .i64 u.d.e, .int .i64 u.d.s, .int .i64 u.d.w, .int .i64 u.d.b], .bool cn]) := by rw [ha]; exact putSel_on (e := (8, 35, .tuple #[.agg #[.int .i64 u.x, .int .i64 u.y, .int .i64 u.d.t, .int .i64 u.d.n, .int .i64 u.d.e, .int .i64 u.d.s, .int .i64 u.d.w, .int .i64 u.d.b], .bool cn])) 5 rfl rfl (hon 8 (by kernel_rfl)) rfl
       replace ha := am ha
       have HB := am Q_HB
       have GB := am Q_GB
       have R5 := am Q_R5
       have R6 := am Q_R6
       refine value_ (w1 := w') (v := .agg #[.int .i64 u.x, .int .i64 u.y, .int .i64 u.d.t, .int .i64 u.d.n, .int .i64 u.d.e, .int .i64 u.d.s, .int .i64 u.d.w, .int .i64 u.d.b]) (by rfl) rfl ?_ ?_
       ·go_simp
        (try simp only [i64_w])
        try rfl
       refine hK.out _ _ ⟨go_, m11_, (by rw [ha.out]; exact putSel_upk 6 hb_ rfl rfl rfl), Q_HB, Q_GB, Q_R5, Q_R6, Q_Z0, fun h0_ => absurd ((hoff 12 (by kernel_rfl)).symm.trans h0_) (by decide), Q_X11_⟩
      refine steps_cons ?_ ?_
      ·rintro b a w' ⟨go_, m11_, ha, Q_HB, Q_GB, Q_R5, Q_R6, Q_Z0, Q_BO, Q_X11_⟩ hb_ hon hoff
       refine ⟨_, rfl, fun K hK => ?_⟩
       have e35 : a.tmps[35]? = some (.tuple #[.agg #[.int .i64 u.x, .int .i64 u.y, .int .i64 u.d.t, .int .i64 u.d.n, .int .i64 u.d.e, .int .i64 u.d.s, .int .i64 u.d.w, .int .i64 u.d.b], .bool cn]) := by rw [ha]; exact putSel_on (e := (8, 35, .tuple #[.agg #[.int .i64 u.x, .int .i64 u.y, .int .i64 u.d.t, .int .i64 u.d.n, .int .i64 u.d.e, .int .i64 u.d.s, .int .i64 u.d.w, .int .i64 u.d.b], .bool cn])) 5 rfl rfl (hon 8 (by kernel_rfl)) rfl
       replace ha := am ha
       have HB := am Q_HB
       have GB := am Q_GB
       have R5 := am Q_R5
       have R6 := am Q_R6
       refine value_ (w1 := w') (v := .bool cn) (by rfl) rfl ?_ ?_
       ·go_simp
        (try simp only [i64_w])
        try rfl
       refine hK.out _ _ ⟨go_, m11_, (by rw [ha.out]; exact putSel_upk 7 hb_ rfl rfl rfl), Q_HB, Q_GB, Q_R5, Q_R6, Q_Z0, Q_BO, Q_X11_⟩
      refine steps_cons ?_ ?_
      ·rintro b a w' ⟨go_, m11_, ha, Q_HB, Q_GB, Q_R5, Q_R6, Q_Z0, Q_BO, Q_X11_⟩ hb_ hon hoff
       refine ⟨_, rfl, fun K hK => ?_⟩
       replace ha := am ha
       have HB := am Q_HB
       have GB := am Q_GB
       have R5 := am Q_R5
       have R6 := am Q_R6
       refine value_ (w1 := ?_) (v := ?_) (by rfl) rfl ?_ ?_
       rotate_left 2
       ·go_simp
        constructor
        ·rfl
        ·rfl
       refine hK.out _ _ ⟨w'.heap.size, (.pointer (some ⟨w'.heap.size, 0, none⟩)), (by rw [ha.out]; exact putSel_upk 8 hb_ rfl rfl rfl), below_alloc HB.out _, blk_alloc GB.out _, Kd.R_alloc R5.out _, Kd.R_alloc R6.out _, fun _ _ => ⟨blk_new _ _, HB.out.size⟩, fun h0_ => absurd ((hoff 12 (by kernel_rfl)).symm.trans h0_) (by decide), fun _ => rfl⟩
      refine steps_cons ?_ ?_
      ·rintro b a w' ⟨go_, m11_, ha, Q_HB, Q_GB, Q_R5, Q_R6, Q_Z0, Q_BO, Q_X11_⟩ hb_ hon hoff
       refine ⟨_, rfl, fun K hK => ?_⟩
       have e9 : a.tmps[9]? = some (m11_) := by rw [ha]; exact putSel_on (e := (11, 9, m11_)) 8 rfl rfl (hon 11 (by kernel_rfl)) rfl
       rw [Q_X11_ (hon 11 (by kernel_rfl))] at e9
       have e44 : a.tmps[44]? = some (.agg #[.int .i64 u.x, .int .i64 u.y, .int .i64 u.d.t, .int .i64 u.d.n, .int .i64 u.d.e, .int .i64 u.d.s, .int .i64 u.d.w, .int .i64 u.d.b]) := by rw [ha]; exact putSel_on (e := (9, 44, .agg #[.int .i64 u.x, .int .i64 u.y, .int .i64 u.d.t, .int .i64 u.d.n, .int .i64 u.d.e, .int .i64 u.d.s, .int .i64 u.d.w, .int .i64 u.d.b])) 6 rfl rfl (hon 9 (by kernel_rfl)) rfl
       replace ha := am ha
       have HB := am Q_HB
       have GB := am Q_GB
       have R5 := am Q_R5
       have R6 := am Q_R6
       have Z0 := am (Q_Z0 (hon 11 (by kernel_rfl)) hb_)
       have z0 : w'.cell? ⟨go_, 0, none⟩ = some (.int .i64 0) := blk_cell Z0.out.1 0
       have z1 : w'.cell? ⟨go_, 1, none⟩ = some (.int .i64 0) := blk_cell Z0.out.1 1
       have z2 : w'.cell? ⟨go_, 2, none⟩ = some (.int .i64 0) := blk_cell Z0.out.1 2
       have z3 : w'.cell? ⟨go_, 3, none⟩ = some (.int .i64 0) := blk_cell Z0.out.1 3
       have z4 : w'.cell? ⟨go_, 4, none⟩ = some (.int .i64 0) := blk_cell Z0.out.1 4
       have z5 : w'.cell? ⟨go_, 5, none⟩ = some (.int .i64 0) := blk_cell Z0.out.1 5
       have z6 : w'.cell? ⟨go_, 6, none⟩ = some (.int .i64 0) := blk_cell Z0.out.1 6
       have z7 : w'.cell? ⟨go_, 7, none⟩ = some (.int .i64 0) := blk_cell Z0.out.1 7
       have zf0 := blk_frozen Z0.out.1 0
       have zf1 := blk_frozen Z0.out.1 1
       have zf2 := blk_frozen Z0.out.1 2
       have zf3 := blk_frozen Z0.out.1 3
       have zf4 := blk_frozen Z0.out.1 4
       have zf5 := blk_frozen Z0.out.1 5
       have zf6 := blk_frozen Z0.out.1 6
       have zf7 := blk_frozen Z0.out.1 7
       have hz2_ := Z0.out.2
       have hnG_ : G ≠ go_ := fun e_ => by have h1_ := GB.out; rw [e_, Z0.out.1] at h1_; simp at h1_
       refine skip_ (w1 := ?_) (by rfl) rfl ?_ ?_
       rotate_left
       ·go_simp
        rfl
       refine hK.out _ _ ⟨go_, m11_, (by rw [ha.out]; exact putSel_none (v := undef) rfl), (below_set (below_set (below_set (below_set (below_set (below_set (below_set (below_set HB.out hz2_) hz2_) hz2_) hz2_) hz2_) hz2_) hz2_) hz2_), (blk_far (blk_far (blk_far (blk_far (blk_far (blk_far (blk_far (blk_far GB.out hnG_ _) hnG_ _) hnG_ _) hnG_ _) hnG_ _) hnG_ _) hnG_ _) hnG_ _), Kd.R_mono (Kd.R_far (p := ⟨go_, 7, none⟩) (Kd.R_far (p := ⟨go_, 6, none⟩) (Kd.R_far (p := ⟨go_, 5, none⟩) (Kd.R_far (p := ⟨go_, 4, none⟩) (Kd.R_far (p := ⟨go_, 3, none⟩) (Kd.R_far (p := ⟨go_, 2, none⟩) (Kd.R_far (p := ⟨go_, 1, none⟩) (Kd.R_far (p := ⟨go_, 0, none⟩) (Kd.R_types R5.out Z0.out.1 (by decide)) (fun _ hk => hk.2) _) (fun _ hk => hk.2) _) (fun _ hk => hk.2) _) (fun _ hk => hk.2) _) (fun _ hk => hk.2) _) (fun _ hk => hk.2) _) (fun _ hk => hk.2) _) (fun _ hk => hk.2) _) (fun _ _ => trivial), Kd.R_mono (Kd.R_far (p := ⟨go_, 7, none⟩) (Kd.R_far (p := ⟨go_, 6, none⟩) (Kd.R_far (p := ⟨go_, 5, none⟩) (Kd.R_far (p := ⟨go_, 4, none⟩) (Kd.R_far (p := ⟨go_, 3, none⟩) (Kd.R_far (p := ⟨go_, 2, none⟩) (Kd.R_far (p := ⟨go_, 1, none⟩) (Kd.R_far (p := ⟨go_, 0, none⟩) (Kd.R_types R6.out Z0.out.1 (by decide)) (fun _ hk => hk.2) _) (fun _ hk => hk.2) _) (fun _ hk => hk.2) _) (fun _ hk => hk.2) _) (fun _ hk => hk.2) _) (fun _ hk => hk.2) _) (fun _ hk => hk.2) _) (fun _ hk => hk.2) _) (fun _ _ => trivial), fun _ h1_ => absurd ((up_self b 12).symm.trans h1_) (by decide), fun _ => ⟨(blk_put (cs := #[.int .i64 u.x, .int .i64 u.y, .int .i64 u.d.t, .int .i64 u.d.n, .int .i64 u.d.e, .int .i64 u.d.s, .int .i64 u.d.w, .int .i64 0]) (blk_put (cs := #[.int .i64 u.x, .int .i64 u.y, .int .i64 u.d.t, .int .i64 u.d.n, .int .i64 u.d.e, .int .i64 u.d.s, .int .i64 0, .int .i64 0]) (blk_put (cs := #[.int .i64 u.x, .int .i64 u.y, .int .i64 u.d.t, .int .i64 u.d.n, .int .i64 u.d.e, .int .i64 0, .int .i64 0, .int .i64 0]) (blk_put (cs := #[.int .i64 u.x, .int .i64 u.y, .int .i64 u.d.t, .int .i64 u.d.n, .int .i64 0, .int .i64 0, .int .i64 0, .int .i64 0]) (blk_put (cs := #[.int .i64 u.x, .int .i64 u.y, .int .i64 u.d.t, .int .i64 0, .int .i64 0, .int .i64 0, .int .i64 0, .int .i64 0]) (blk_put (cs := #[.int .i64 u.x, .int .i64 u.y, .int .i64 0, .int .i64 0, .int .i64 0, .int .i64 0, .int .i64 0, .int .i64 0]) (blk_put (cs := #[.int .i64 u.x, .int .i64 0, .int .i64 0, .int .i64 0, .int .i64 0, .int .i64 0, .int .i64 0, .int .i64 0]) (blk_put (cs := #[.int .i64 0, .int .i64 0, .int .i64 0, .int .i64 0, .int .i64 0, .int .i64 0, .int .i64 0, .int .i64 0]) Z0.out.1 0 _ rfl) 1 _ rfl) 2 _ rfl) 3 _ rfl) 4 _ rfl) 5 _ rfl) 6 _ rfl) 7 _ rfl), hz2_⟩, Q_X11_⟩
      refine steps_cons ?_ ?_
      ·rintro b a w' ⟨go_, m11_, ha, Q_HB, Q_GB, Q_R5, Q_R6, Q_Z0, Q_BO, Q_X11_⟩ hb_ hon hoff
       refine ⟨_, rfl, fun K hK => ?_⟩
       have e45 : a.tmps[45]? = some (.bool cn) := by rw [ha]; exact putSel_on (e := (10, 45, .bool cn)) 7 rfl rfl (hon 10 (by kernel_rfl)) rfl
       replace ha := am ha
       have HB := am Q_HB
       have GB := am Q_GB
       have R5 := am Q_R5
       have R6 := am Q_R6
       have BO := am (Q_BO (hon 12 (by kernel_rfl)))
       refine value_ (w1 := w') (v := .bool cn) (by rfl) rfl ?_ ?_
       ·go_simp
        (try simp only [i64_w])
        try rfl
       refine hK.out _ _ ⟨go_, m11_, (by rw [ha.out]; exact putSel_upk 9 hb_ rfl rfl rfl), Q_HB, Q_GB, Q_R5, Q_R6, fun _ h1_ => absurd ((hon 12 (by kernel_rfl)).symm.trans h1_) (by decide), Q_BO, Q_X11_⟩
      exact steps_nil
     ·rintro b a w' hall ⟨go_, m11_, ha, Q_HB, Q_GB, Q_R5, Q_R6, Q_Z0, Q_BO, Q_X11_⟩
      clear GB HB R5 R6
      have hb0_ := hall 0 (by kernel_rfl)
      have hb3_ := hall 3 (by kernel_rfl)
      have hb4_ := hall 4 (by kernel_rfl)
      have hb5_ := hall 5 (by kernel_rfl)
      have hb7_ := hall 7 (by kernel_rfl)
      have hb8_ := hall 8 (by kernel_rfl)
      have hb9_ := hall 9 (by kernel_rfl)
      have hb10_ := hall 10 (by kernel_rfl)
      have hb11_ := hall 11 (by kernel_rfl)
      have hb12_ := hall 12 (by kernel_rfl)
      have hb13_ := hall 13 (by kernel_rfl)
      subst ha
      obtain rfl := Q_X11_ hb11_
      simp only [putSel, hb0_, hb3_, hb4_, hb5_, hb7_, hb8_, hb9_, hb10_, hb11_, hb12_, hb13_, if_true, Act.put, List.setIfInBounds_toArray, List.set_cons_zero, List.set_cons_succ]
      have HB := am Q_HB
      clear Q_HB
      have GB := am Q_GB
      clear Q_GB
      have R5 := am Q_R5
      clear Q_R5
      have R6 := am Q_R6
      clear Q_R6
      clear Q_Z0
      have BO := am (Q_BO hb12_)
      clear Q_BO
      clear hall hb0_ hb3_ hb4_ hb5_ hb7_ hb8_ hb9_ hb10_ hb11_ hb12_ hb13_
      cases cn with
      | false =>
       go_wp2_with fail
       go_roundw
       case rel => exact ⟨i + 1, by go_num, by omega, by
        rw [HNX.out, HST.out, step1_no HX1.out (by rw [← HCN.out])]
        exact ⟨R5.out, R6.out, GB.out, HG.out, HB.out⟩⟩
       case measure => simp [intOf]; omega
      | true =>
       have HGU := hid (show Gd u by rw [HU.out]; exact HGD.out _ _ HGX1.out hi4 HCN.out.symm)
       have BK := hid BO.out.1
       have HGO := hid BO.out.2
       clear BO
       obtain ⟨pz, hpz⟩ : ∃ pz, pz = plc (codes code L1) (code u) 0 := ⟨_, rfl⟩
       have hcl_ : (codes code L1).length = n := by rw [List.length_map]; exact HN1.out.symm
       have hplc : ∀ W, Kd.C (Kd.int .i64) W (some ⟨b6, 0, none⟩) (codes code L1).length (codes code L1) → n ≤ c6 → Calls Tryd.prog 40 #[.slice (some ⟨b6, 0, none⟩) n c6, .int .i64 (code u)] W fun e w' => e = .returned (.int .i64 pz) ∧ Below W.heap.size W w' := by
        intro W hC hc
        have h_ := HPLACE.out (some ⟨b6, 0, none⟩) c6 (codes code L1) (code u) W hC (by rw [hcl_]; exact hc) (by omega)
        rw [hcl_, ← hpz] at h_
        exact h_
       have HPLC := hid hplc
       have HPZ := hid hpz
       have HCL := hid hcl_
       clear hplc hpz hcl_
       have hg0 : w'.cell? ⟨G, 0, none⟩ = some (.int .i64 gw) := blk_cell GB.out 0
       have hg1 : w'.cell? ⟨G, 1, none⟩ = some (.int .i64 gh) := blk_cell GB.out 1
       have hg2 : w'.cell? ⟨G, 2, none⟩ = some (.slice A0 nl c0) := blk_cell GB.out 2
       have ho0 : w'.cell? ⟨go_, 0, none⟩ = some (.int .i64 u.x) := blk_cell BK.out 0
       have ho1 : w'.cell? ⟨go_, 1, none⟩ = some (.int .i64 u.y) := blk_cell BK.out 1
       have ho2 : w'.cell? ⟨go_, 2, none⟩ = some (.int .i64 u.d.t) := blk_cell BK.out 2
       have ho3 : w'.cell? ⟨go_, 3, none⟩ = some (.int .i64 u.d.n) := blk_cell BK.out 3
       have ho4 : w'.cell? ⟨go_, 4, none⟩ = some (.int .i64 u.d.e) := blk_cell BK.out 4
       have ho5 : w'.cell? ⟨go_, 5, none⟩ = some (.int .i64 u.d.s) := blk_cell BK.out 5
       have ho6 : w'.cell? ⟨go_, 6, none⟩ = some (.int .i64 u.d.w) := blk_cell BK.out 6
       have ho7 : w'.cell? ⟨go_, 7, none⟩ = some (.int .i64 u.d.b) := blk_cell BK.out 7
       go_upto_if 54 with (first | ((with_reducible refine gate_callee (f := 38) rfl ?_); refine goesL_ (some 51) rfl rfl Tryd.func38 (by kernel_rfl) rfl #[.agg #[.int .i64 gw, .int .i64 gh, .slice A0 nl c0], .agg #[.int .i64 u.x, .int .i64 u.y, .int .i64 u.d.t, .int .i64 u.d.n, .int .i64 u.d.e, .int .i64 u.d.s, .int .i64 u.d.w, .int .i64 u.d.b]] rfl (by (try simp only [List.map_toArray, List.map_cons, List.map_nil]); first | done | rfl | (simp only [List.length_drop, List.length_take]; rfl)) ?_; (with_reducible refine (HCODE.out u HGU.out _ (by repeat (first | (with_reducible first | exact HB.out | apply below_alloc | apply pw_below_drewN | apply below_drew1) | exact HB.out))).mono ?_); rintro e w11 ⟨rfl, hb⟩; refine ⟨_, rfl, ?_⟩; have n_R5 := hid (Kd.R_below (by (with_reducible repeat (first | apply Kd.R_alloc | apply Kd.R_drewN | apply Kd.R_drew)); exact R5.out) hb); have n_R6 := hid (Kd.R_below (by (with_reducible repeat (first | apply Kd.R_alloc | apply Kd.R_drewN | apply Kd.R_drew)); exact R6.out) hb); have n_GB := hid (blk_below (by (with_reducible repeat (first | refine blk_drewN ?_ _ | refine blk_drew ?_ | refine blk_alloc ?_ _)); exact GB.out) hb); have n_BK := hid (blk_below (by (with_reducible repeat (first | refine blk_drewN ?_ _ | refine blk_drew ?_ | refine blk_alloc ?_ _)); exact BK.out) hb); have n_HB := hid (below_step (by repeat (first | (with_reducible first | exact HB.out | apply below_alloc | apply pw_below_drewN | apply below_drew1) | exact HB.out)) hb); (try clear R5); (try clear R6); (try clear GB); (try clear BK); (try clear HB); have R5 := n_R5; have R6 := n_R6; have GB := n_GB; have BK := n_BK; have HB := n_HB; clear n_R5 n_R6 n_GB n_BK n_HB; clear hb) | ((with_reducible refine gate_callee (f := 40) rfl ?_); refine goesL_ (some 52) rfl rfl Tryd.func40 (by kernel_rfl) rfl #[.slice (some ⟨b6, 0, none⟩) n c6, .int .i64 (code u)] rfl (by (try simp only [List.map_toArray, List.map_cons, List.map_nil]); first | done | rfl | (simp only [List.length_drop, List.length_take]; rfl)) ?_; (with_reducible refine (HPLC.out _ ?sd1 ?sd2).mono ?_); (case sd1 => repeat (first | exact (Kd.R_reads' R6.out).2.2 | (with_reducible refine Kd.C_alloc ?_ _) | (with_reducible refine Kd.C_drewN ?_ _) | (with_reducible refine Kd.C_drew ?_))); (case sd2 => exact (Kd.R_reads' R6.out).2.1); rintro e w12 ⟨rfl, hb⟩; refine ⟨_, rfl, ?_⟩; have n_R5 := hid (Kd.R_below (by (with_reducible repeat (first | apply Kd.R_alloc | apply Kd.R_drewN | apply Kd.R_drew)); exact R5.out) hb); have n_R6 := hid (Kd.R_below (by (with_reducible repeat (first | apply Kd.R_alloc | apply Kd.R_drewN | apply Kd.R_drew)); exact R6.out) hb); have n_GB := hid (blk_below (by (with_reducible repeat (first | refine blk_drewN ?_ _ | refine blk_drew ?_ | refine blk_alloc ?_ _)); exact GB.out) hb); have n_BK := hid (blk_below (by (with_reducible repeat (first | refine blk_drewN ?_ _ | refine blk_drew ?_ | refine blk_alloc ?_ _)); exact BK.out) hb); have n_HB := hid (below_step (by repeat (first | (with_reducible first | exact HB.out | apply below_alloc | apply pw_below_drewN | apply below_drew1) | exact HB.out)) hb); (try clear R5); (try clear R6); (try clear GB); (try clear BK); (try clear HB); have R5 := n_R5; have R6 := n_R6; have GB := n_GB; have BK := n_BK; have HB := n_HB; clear n_R5 n_R6 n_GB n_BK n_HB; clear hb))
       go_cut [5, 6, 11] (fun v5 v6 v11 wx => ∃ (N2 : List Nd) (ai : Nat), N2 = grow L1 pz (newNd x1 u k i) ∧ ai = atOf L1 pz ∧ v11 = .int .i64 (ai : Int) ∧ RN w wx G gw gh A0 nl c0 code N2 v5 v6)
       case first =>
        by_cases hp : pz < 0
        ·have HPN := hid hp
         have hpb : decide (pz < 0) = true := decide_eq_true hp
         go_upto_region 15 with fail
         refine start_ (n := 14) (S := fun w' => True) (ds := []) #[ff, ff, ff, ff, ff, ff, ff, ff, ff, ff, ff, ff, ff, ff] (by kernel_rfl) rfl rfl trivial (fun hHeld => ?_)
         refine with_tabW wya.tab15 wya.bits15 (fun HT_ HW_ => ?_)
         have n_HB := hid (below_drew HB.out)
         have n_GB := hid (blk_drew GB.out)
         have n_R5 := hid (Kd.R_drew R5.out)
         have n_R6 := hid (Kd.R_drew R6.out)
         have n_BK := hid (blk_drew BK.out)
         clear HB GB R5 R6 BK
         have HB := n_HB
         have GB := n_GB
         have R5 := n_R5
         have R6 := n_R6
         have BK := n_BK
         clear n_HB n_GB n_R5 n_R6 n_BK
         generalize World.drew _ = w15 at HB GB R5 R6 BK hHeld ⊢
         have SZ := hid (Nat.le_refl w15.heap.size)
         have HWS := hid HB.out.size
         have HLN := hid (show (L1.map sNd).length = n ∧ n ≤ 1000 from ⟨by rw [List.length_map]; exact HN1.out.symm, hls2⟩)
         refine pure_ (i := 0) (N := some 57) (v := ?_) (a' := ?_) #[tt, ff, ff, ff, ff, ff, ff, ff, ff, ff, ff, ff, ff, ff] rfl rfl (any_of HT_.out (by kernel_rfl)) (fun _ _ _ h => h) (Or.inl ⟨by rfl, ?_⟩) ?_ ?_
         rotate_left
         ·intro w'
          go_simp
          with_reducible rfl
         rotate_left
         ·simp only [Act.put, List.setIfInBounds_toArray, List.set_cons_zero, List.set_cons_succ, i64_w, i32_w]
          rfl
         refine pure_ (i := 2) (N := some 59) (v := ?_) (a' := ?_) #[tt, ff, tt, ff, ff, ff, ff, ff, ff, ff, ff, ff, ff, ff] rfl rfl (any_of HT_.out (by kernel_rfl)) (fun _ _ _ h => h) (Or.inl ⟨by rfl, ?_⟩) ?_ ?_
         rotate_left
         ·intro w'
          go_simp
          with_reducible rfl
         rotate_left
         ·simp only [Act.put, List.setIfInBounds_toArray, List.set_cons_zero, List.set_cons_succ, i64_w, i32_w]
          rfl
         refine pure_ (i := 3) (N := some 60) (v := ?_) (a' := ?_) #[tt, ff, tt, tt, ff, ff, ff, ff, ff, ff, ff, ff, ff, ff] rfl rfl (any_of HT_.out (by kernel_rfl)) (fun _ _ _ h => h) (Or.inl ⟨by rfl, ?_⟩) ?_ ?_
         rotate_left
         ·intro w'
          go_simp
          with_reducible rfl
         rotate_left
         ·simp only [Act.put, List.setIfInBounds_toArray, List.set_cons_zero, List.set_cons_succ, i64_w, i32_w]
          rfl
         refine pure_ (i := 8) (N := some 65) (v := ?_) (a' := ?_) #[tt, ff, tt, tt, ff, ff, ff, ff, tt, ff, ff, ff, ff, ff] rfl rfl (any_of HT_.out (by kernel_rfl)) (fun _ _ _ h => h) (Or.inl ⟨by rfl, ?_⟩) ?_ ?_
         rotate_left
         ·intro w'
          go_simp
          with_reducible rfl
         rotate_left
         ·simp only [Act.put, List.setIfInBounds_toArray, List.set_cons_zero, List.set_cons_succ, i64_w, i32_w]
          rfl
         refine pure_ (i := 9) (N := some 66) (v := ?_) (a' := ?_) #[tt, ff, tt, tt, ff, ff, ff, ff, tt, tt, ff, ff, ff, ff] rfl rfl (any_of HT_.out (by kernel_rfl)) (fun _ _ _ h => h) (Or.inl ⟨by rfl, ?_⟩) ?_ ?_
         rotate_left
         ·intro w'
          go_simp
          with_reducible rfl
         rotate_left
         ·simp only [Act.put, List.setIfInBounds_toArray, List.set_cons_zero, List.set_cons_succ, i64_w, i32_w]
          rfl
         refine inv_at [1, 4, 5, 6, 7, 10, 11, 12, 13] (fun a0_ b a w' => ∃ (g11_ : Nat) (u5_ : Value) (m11_ : Value) (m13_ : Value), a = putSel a0_ b [(1, 58, .agg #[.int .i64 u.x, .int .i64 u.y, .int .i64 u.d.t, .int .i64 u.d.n, .int .i64 u.d.e, .int .i64 u.d.s, .int .i64 u.d.w, .int .i64 u.d.b]), (4, 61, .pointer (some ⟨b5, k * 16, none⟩)), (5, 62, .pointer (some ⟨b5, k * 16 + 8, none⟩)), (6, 63, .int .i64 x1.far), (7, 64, .int .i64 (IntKind.i64.wrap (x1.far + 1))), (10, 67, .agg #[.int .i64 u.x, .int .i64 u.y, .int .i64 u.d.t, .int .i64 u.d.n, .int .i64 u.d.e, .int .i64 u.d.s, .int .i64 u.d.w, .int .i64 u.d.b, .int .i64 (IntKind.i64.wrap (x1.far + 1)), .int .i64 0, .int .i64 (k : Int), .int .i64 (i : Int), .int .i64 0, .int .i64 0, .int .i64 0, .int .i64 0]), (11, 68, m11_), (12, 69, u5_), (13, 5, m13_)] ∧ (Below w.heap.size w w') ∧ (w'.heap[G]? = some (.cells #[.int .i64 gw, .int .i64 gh, .slice A0 nl c0] 73 (0, 0))) ∧ (Kd.R (Kd.int .i64) 3 w' w.heap.size (fun _ => True) (.slice (some ⟨b6, 0, none⟩) n c6) (codes code L1)) ∧ (w'.heap[go_]? = some (.cells (st8 u) 30 (0, 0))) ∧ (w15.heap.size ≤ w'.heap.size) ∧ (b 12 = false → Kd.R kNd 44 w' w.heap.size (fun _ => True) (.slice (some ⟨b5, 0, none⟩) n c5) (L1.map sNd)) ∧ (b 12 = true → Kd.R kNd 44 w' w.heap.size (fun _ => True) u5_ (L1.map sNd ++ [sNd (newNd x1 u k i)])) ∧ (b 11 = true → b 12 = false → w'.heap[g11_]? = some (.cells #[.int .i64 u.x, .int .i64 u.y, .int .i64 u.d.t, .int .i64 u.d.n, .int .i64 u.d.e, .int .i64 u.d.s, .int .i64 u.d.w, .int .i64 u.d.b, .int .i64 (IntKind.i64.wrap (x1.far + 1)), .int .i64 0, .int .i64 (k : Int), .int .i64 (i : Int), .int .i64 0, .int .i64 0, .int .i64 0, .int .i64 0] 44 (0, 0)) ∧ w15.heap.size ≤ g11_) ∧ (b 11 = true → (m11_ : Value) = .slice (some ⟨g11_, 0, none⟩) 1 1) ∧ (b 13 = true → (m13_ : Value) = u5_)) HT_.out HW_.out (by kernel_rfl) (by kernel_rfl) ?_ ?_ ?_
         ·exact ⟨0, .bool false, .bool false, .bool false, by simp only [putSel, Bool.false_eq_true, if_false], HB.out, GB.out, R6.out, BK.out, SZ.out, fun _ => R5.out, fun h_ => absurd h_ (by decide), fun h_ => absurd h_ (by decide), fun h_ => absurd h_ (by decide), fun h_ => absurd h_ (by decide)⟩
         ·skip
          clear BK GB HB R5 R6 SZ
          refine steps_cons ?_ ?_
          ·rintro b a w' ⟨g11_, u5_, m11_, m13_, ha, Q_HB, Q_GB, Q_R6, Q_BK, Q_SZ, Q_R5, Q_U5, Q_L0, Q_X11_, Q_X13_⟩ hb_ hon hoff
           refine ⟨_, rfl, fun K hK => ?_⟩
           have e9 : a.tmps[9]? = some (.pointer (some ⟨go_, 0, none⟩)) := by rw [ha]; exact (putSel_off rfl).trans rfl
           replace ha := am ha
           have HB := am Q_HB
           have GB := am Q_GB
           have R6 := am Q_R6
           have BK := am Q_BK
           have SZ := am Q_SZ
           have R5 := am (Q_R5 (hoff 12 (by kernel_rfl)))
           have o0 : w'.cell? ⟨go_, 0, none⟩ = some (.int .i64 u.x) := blk_cell BK.out 0
           have o1 : w'.cell? ⟨go_, 1, none⟩ = some (.int .i64 u.y) := blk_cell BK.out 1
           have o2 : w'.cell? ⟨go_, 2, none⟩ = some (.int .i64 u.d.t) := blk_cell BK.out 2
           have o3 : w'.cell? ⟨go_, 3, none⟩ = some (.int .i64 u.d.n) := blk_cell BK.out 3
           have o4 : w'.cell? ⟨go_, 4, none⟩ = some (.int .i64 u.d.e) := blk_cell BK.out 4
           have o5 : w'.cell? ⟨go_, 5, none⟩ = some (.int .i64 u.d.s) := blk_cell BK.out 5
           have o6 : w'.cell? ⟨go_, 6, none⟩ = some (.int .i64 u.d.w) := blk_cell BK.out 6
           have o7 : w'.cell? ⟨go_, 7, none⟩ = some (.int .i64 u.d.b) := blk_cell BK.out 7
           refine value_ (w1 := w') (v := .agg #[.int .i64 u.x, .int .i64 u.y, .int .i64 u.d.t, .int .i64 u.d.n, .int .i64 u.d.e, .int .i64 u.d.s, .int .i64 u.d.w, .int .i64 u.d.b]) (by rfl) rfl ?_ ?_
           ·go_simp
            (try simp only [i64_w])
            try rfl
           refine hK.out _ _ ⟨g11_, u5_, m11_, m13_, (by rw [ha.out]; exact putSel_upk 0 hb_ rfl rfl rfl), Q_HB, Q_GB, Q_R6, Q_BK, Q_SZ, Q_R5, fun h0_ => absurd ((hoff 12 (by kernel_rfl)).symm.trans h0_) (by decide), fun h0_ _ => absurd ((hoff 11 (by kernel_rfl)).symm.trans h0_) (by decide), fun h0_ => absurd ((hoff 11 (by kernel_rfl)).symm.trans h0_) (by decide), fun h0_ => absurd ((hoff 13 (by kernel_rfl)).symm.trans h0_) (by decide)⟩
          refine steps_cons ?_ ?_
          ·rintro b a w' ⟨g11_, u5_, m11_, m13_, ha, Q_HB, Q_GB, Q_R6, Q_BK, Q_SZ, Q_R5, Q_U5, Q_L0, Q_X11_, Q_X13_⟩ hb_ hon hoff
           refine ⟨_, rfl, fun K hK => ?_⟩
           have e59 : a.tmps[59]? = some (.slice (some ⟨b5, 0, none⟩) n c5) := by rw [ha]; exact (putSel_off rfl).trans rfl
           have e60 : a.tmps[60]? = some (.int .i64 (k : Int)) := by rw [ha]; exact (putSel_off rfl).trans rfl
           replace ha := am ha
           have HB := am Q_HB
           have GB := am Q_GB
           have R6 := am Q_R6
           have BK := am Q_BK
           have SZ := am Q_SZ
           have R5 := am (Q_R5 (hoff 12 (by kernel_rfl)))
           have hk_ : (k : Int) < (n : Int) := by omega
           refine value_ (w1 := w') (v := .pointer (some ⟨b5, k * 16, none⟩)) (by rfl) rfl ?_ ?_
           ·go_simp
            (try simp only [i64_w])
            try rfl
           refine hK.out _ _ ⟨g11_, u5_, m11_, m13_, (by rw [ha.out]; exact putSel_upk 1 hb_ rfl rfl rfl), Q_HB, Q_GB, Q_R6, Q_BK, Q_SZ, Q_R5, fun h0_ => absurd ((hoff 12 (by kernel_rfl)).symm.trans h0_) (by decide), fun h0_ _ => absurd ((hoff 11 (by kernel_rfl)).symm.trans h0_) (by decide), fun h0_ => absurd ((hoff 11 (by kernel_rfl)).symm.trans h0_) (by decide), fun h0_ => absurd ((hoff 13 (by kernel_rfl)).symm.trans h0_) (by decide)⟩
          refine steps_cons ?_ ?_
          ·rintro b a w' ⟨g11_, u5_, m11_, m13_, ha, Q_HB, Q_GB, Q_R6, Q_BK, Q_SZ, Q_R5, Q_U5, Q_L0, Q_X11_, Q_X13_⟩ hb_ hon hoff
           refine ⟨_, rfl, fun K hK => ?_⟩
           have e61 : a.tmps[61]? = some (.pointer (some ⟨b5, k * 16, none⟩)) := by rw [ha]; exact putSel_on (e := (4, 61, .pointer (some ⟨b5, k * 16, none⟩))) 1 rfl rfl (hon 4 (by kernel_rfl)) rfl
           replace ha := am ha
           have HB := am Q_HB
           have GB := am Q_GB
           have R6 := am Q_R6
           have BK := am Q_BK
           have SZ := am Q_SZ
           have R5 := am (Q_R5 (hoff 12 (by kernel_rfl)))
           refine value_ (w1 := w') (v := .pointer (some ⟨b5, k * 16 + 8, none⟩)) (by rfl) rfl ?_ ?_
           ·go_simp
            (try simp only [i64_w])
            try rfl
           refine hK.out _ _ ⟨g11_, u5_, m11_, m13_, (by rw [ha.out]; exact putSel_upk 2 hb_ rfl rfl rfl), Q_HB, Q_GB, Q_R6, Q_BK, Q_SZ, Q_R5, fun h0_ => absurd ((hoff 12 (by kernel_rfl)).symm.trans h0_) (by decide), fun h0_ _ => absurd ((hoff 11 (by kernel_rfl)).symm.trans h0_) (by decide), fun h0_ => absurd ((hoff 11 (by kernel_rfl)).symm.trans h0_) (by decide), fun h0_ => absurd ((hoff 13 (by kernel_rfl)).symm.trans h0_) (by decide)⟩
          refine steps_cons ?_ ?_
          ·rintro b a w' ⟨g11_, u5_, m11_, m13_, ha, Q_HB, Q_GB, Q_R6, Q_BK, Q_SZ, Q_R5, Q_U5, Q_L0, Q_X11_, Q_X13_⟩ hb_ hon hoff
           refine ⟨_, rfl, fun K hK => ?_⟩
           have e62 : a.tmps[62]? = some (.pointer (some ⟨b5, k * 16 + 8, none⟩)) := by rw [ha]; exact putSel_on (e := (5, 62, .pointer (some ⟨b5, k * 16 + 8, none⟩))) 2 rfl rfl (hon 5 (by kernel_rfl)) rfl
           replace ha := am ha
           have HB := am Q_HB
           have GB := am Q_GB
           have R6 := am Q_R6
           have BK := am Q_BK
           have SZ := am Q_SZ
           have R5 := am (Q_R5 (hoff 12 (by kernel_rfl)))
           have c8_ : w'.cell? ⟨b5, k * 16 + 8, none⟩ = some (.int .i64 x1.far) := (nd_elem R5.out k x1 HX1.out).1 8 _ rfl
           refine value_ (w1 := w') (v := .int .i64 x1.far) (by rfl) rfl ?_ ?_
           ·go_simp
            (try simp only [i64_w])
            try rfl
           refine hK.out _ _ ⟨g11_, u5_, m11_, m13_, (by rw [ha.out]; exact putSel_upk 3 hb_ rfl rfl rfl), Q_HB, Q_GB, Q_R6, Q_BK, Q_SZ, Q_R5, fun h0_ => absurd ((hoff 12 (by kernel_rfl)).symm.trans h0_) (by decide), fun h0_ _ => absurd ((hoff 11 (by kernel_rfl)).symm.trans h0_) (by decide), fun h0_ => absurd ((hoff 11 (by kernel_rfl)).symm.trans h0_) (by decide), fun h0_ => absurd ((hoff 13 (by kernel_rfl)).symm.trans h0_) (by decide)⟩
          refine steps_cons ?_ ?_
          ·rintro b a w' ⟨g11_, u5_, m11_, m13_, ha, Q_HB, Q_GB, Q_R6, Q_BK, Q_SZ, Q_R5, Q_U5, Q_L0, Q_X11_, Q_X13_⟩ hb_ hon hoff
           refine ⟨_, rfl, fun K hK => ?_⟩
           have e63 : a.tmps[63]? = some (.int .i64 x1.far) := by rw [ha]; exact putSel_on (e := (6, 63, .int .i64 x1.far)) 3 rfl rfl (hon 6 (by kernel_rfl)) rfl
           replace ha := am ha
           have HB := am Q_HB
           have GB := am Q_GB
           have R6 := am Q_R6
           have BK := am Q_BK
           have SZ := am Q_SZ
           have R5 := am (Q_R5 (hoff 12 (by kernel_rfl)))
           refine value_ (w1 := w') (v := .int .i64 (IntKind.i64.wrap (x1.far + 1))) (by rfl) rfl ?_ ?_
           ·go_simp
            (try simp only [i64_w])
            try rfl
           refine hK.out _ _ ⟨g11_, u5_, m11_, m13_, (by rw [ha.out]; exact putSel_upk 4 hb_ rfl rfl rfl), Q_HB, Q_GB, Q_R6, Q_BK, Q_SZ, Q_R5, fun h0_ => absurd ((hoff 12 (by kernel_rfl)).symm.trans h0_) (by decide), fun h0_ _ => absurd ((hoff 11 (by kernel_rfl)).symm.trans h0_) (by decide), fun h0_ => absurd ((hoff 11 (by kernel_rfl)).symm.trans h0_) (by decide), fun h0_ => absurd ((hoff 13 (by kernel_rfl)).symm.trans h0_) (by decide)⟩
          refine steps_cons ?_ ?_
          ·rintro b a w' ⟨g11_, u5_, m11_, m13_, ha, Q_HB, Q_GB, Q_R6, Q_BK, Q_SZ, Q_R5, Q_U5, Q_L0, Q_X11_, Q_X13_⟩ hb_ hon hoff
           refine ⟨_, rfl, fun K hK => ?_⟩
           have e58 : a.tmps[58]? = some (.agg #[.int .i64 u.x, .int .i64 u.y, .int .i64 u.d.t, .int .i64 u.d.n, .int .i64 u.d.e, .int .i64 u.d.s, .int .i64 u.d.w, .int .i64 u.d.b]) := by rw [ha]; exact putSel_on (e := (1, 58, .agg #[.int .i64 u.x, .int .i64 u.y, .int .i64 u.d.t, .int .i64 u.d.n, .int .i64 u.d.e, .int .i64 u.d.s, .int .i64 u.d.w, .int .i64 u.d.b])) 0 rfl rfl (hon 1 (by kernel_rfl)) rfl
           have e64 : a.tmps[64]? = some (.int .i64 (IntKind.i64.wrap (x1.far + 1))) := by rw [ha]; exact putSel_on (e := (7, 64, .int .i64 (IntKind.i64.wrap (x1.far + 1)))) 4 rfl rfl (hon 7 (by kernel_rfl)) rfl
           have e65 : a.tmps[65]? = some (.int .i64 (k : Int)) := by rw [ha]; exact (putSel_off rfl).trans rfl
           have e66 : a.tmps[66]? = some (.int .i64 (i : Int)) := by rw [ha]; exact (putSel_off rfl).trans rfl
           replace ha := am ha
           have HB := am Q_HB
           have GB := am Q_GB
           have R6 := am Q_R6
           have BK := am Q_BK
           have SZ := am Q_SZ
           have R5 := am (Q_R5 (hoff 12 (by kernel_rfl)))
           refine value_ (w1 := w') (v := .agg #[.int .i64 u.x, .int .i64 u.y, .int .i64 u.d.t, .int .i64 u.d.n, .int .i64 u.d.e, .int .i64 u.d.s, .int .i64 u.d.w, .int .i64 u.d.b, .int .i64 (IntKind.i64.wrap (x1.far + 1)), .int .i64 0, .int .i64 (k : Int), .int .i64 (i : Int), .int .i64 0, .int .i64 0, .int .i64 0, .int .i64 0]) (by rfl) rfl ?_ ?_
           ·go_simp
            (try simp only [i64_w])
            try rfl
           refine hK.out _ _ ⟨g11_, u5_, m11_, m13_, (by rw [ha.out]; exact putSel_upk 5 hb_ rfl rfl rfl), Q_HB, Q_GB, Q_R6, Q_BK, Q_SZ, Q_R5, fun h0_ => absurd ((hoff 12 (by kernel_rfl)).symm.trans h0_) (by decide), fun h0_ _ => absurd ((hoff 11 (by kernel_rfl)).symm.trans h0_) (by decide), fun h0_ => absurd ((hoff 11 (by kernel_rfl)).symm.trans h0_) (by decide), fun h0_ => absurd ((hoff 13 (by kernel_rfl)).symm.trans h0_) (by decide)⟩
          refine steps_cons ?_ ?_
          ·rintro b a w' ⟨g11_, u5_, m11_, m13_, ha, Q_HB, Q_GB, Q_R6, Q_BK, Q_SZ, Q_R5, Q_U5, Q_L0, Q_X11_, Q_X13_⟩ hb_ hon hoff
           refine ⟨_, rfl, fun K hK => ?_⟩
           have e67 : a.tmps[67]? = some (.agg #[.int .i64 u.x, .int .i64 u.y, .int .i64 u.d.t, .int .i64 u.d.n, .int .i64 u.d.e, .int .i64 u.d.s, .int .i64 u.d.w, .int .i64 u.d.b, .int .i64 (IntKind.i64.wrap (x1.far + 1)), .int .i64 0, .int .i64 (k : Int), .int .i64 (i : Int), .int .i64 0, .int .i64 0, .int .i64 0, .int .i64 0]) := by rw [ha]; exact putSel_on (e := (10, 67, .agg #[.int .i64 u.x, .int .i64 u.y, .int .i64 u.d.t, .int .i64 u.d.n, .int .i64 u.d.e, .int .i64 u.d.s, .int .i64 u.d.w, .int .i64 u.d.b, .int .i64 (IntKind.i64.wrap (x1.far + 1)), .int .i64 0, .int .i64 (k : Int), .int .i64 (i : Int), .int .i64 0, .int .i64 0, .int .i64 0, .int .i64 0])) 5 rfl rfl (hon 10 (by kernel_rfl)) rfl
           replace ha := am ha
           have HB := am Q_HB
           have GB := am Q_GB
           have R6 := am Q_R6
           have BK := am Q_BK
           have SZ := am Q_SZ
           have R5 := am (Q_R5 (hoff 12 (by kernel_rfl)))
           refine value_ (w1 := ?_) (v := ?_) (by rfl) rfl ?_ ?_
           rotate_left 2
           ·go_simp
            constructor
            ·rfl
            ·rfl
           refine hK.out _ _ ⟨w'.heap.size, u5_, (.slice (some ⟨w'.heap.size, 0, none⟩) 1 1), m13_, (by rw [ha.out]; exact putSel_upk 6 hb_ rfl rfl rfl), below_alloc HB.out _, blk_alloc GB.out _, Kd.R_alloc R6.out _, blk_alloc BK.out _, Nat.le_trans SZ.out (Below.size (below_alloc (Below.refl _ w') _)), fun _ => Kd.R_alloc R5.out _, fun h0_ => absurd ((hoff 12 (by kernel_rfl)).symm.trans h0_) (by decide), fun _ _ => ⟨blk_new _ _, SZ.out⟩, fun _ => rfl, fun h0_ => absurd ((hoff 13 (by kernel_rfl)).symm.trans h0_) (by decide)⟩
          refine steps_cons ?_ ?_
          ·rintro b a w' ⟨g11_, u5_, m11_, m13_, ha, Q_HB, Q_GB, Q_R6, Q_BK, Q_SZ, Q_R5, Q_U5, Q_L0, Q_X11_, Q_X13_⟩ hb_ hon hoff
           refine ⟨_, rfl, fun K hK => ?_⟩
           have e57 : a.tmps[57]? = some (.slice (some ⟨b5, 0, none⟩) n c5) := by rw [ha]; exact (putSel_off rfl).trans rfl
           have e68 : a.tmps[68]? = some (m11_) := by rw [ha]; exact putSel_on (e := (11, 68, m11_)) 6 rfl rfl (hon 11 (by kernel_rfl)) rfl
           rw [Q_X11_ (hon 11 (by kernel_rfl))] at e68
           replace ha := am ha
           have HB := am Q_HB
           have GB := am Q_GB
           have R6 := am Q_R6
           have BK := am Q_BK
           have SZ := am Q_SZ
           have R5 := am (Q_R5 hb_)
           have L0 := am (Q_L0 (hon 11 (by kernel_rfl)) hb_)
           have hlit_ := lit_R kNd (base := w.heap.size) (Nat.le_trans HWS.out L0.out.2) (cs := (#[.int .i64 u.x, .int .i64 u.y, .int .i64 u.d.t, .int .i64 u.d.n, .int .i64 u.d.e, .int .i64 u.d.s, .int .i64 u.d.w, .int .i64 u.d.b, .int .i64 (IntKind.i64.wrap (x1.far + 1)), .int .i64 0, .int .i64 (k : Int), .int .i64 (i : Int), .int .i64 0, .int .i64 0, .int .i64 0, .int .i64 0] : Array Value).toList) L0.out.1 (x := sNd (newNd x1 u k i)) (k44_mkM _ _ _ (sNd (newNd x1 u k i)))
           refine Kd.R_append_rows_step kNd (Rr := kNd.K w') (w0 := w) w.heap.size (by rfl) (.tmp 57) (.tmp 68) 36 44 (.agg #[.int .i64 0, .int .i64 0, .int .i64 0, .int .i64 0, .int .i64 0, .int .i64 0, .int .i64 0, .int .i64 0, .int .i64 0, .int .i64 0, .int .i64 0, .int .i64 0, .int .i64 0, .int .i64 0, .int .i64 0, .int .i64 0]) 128 rfl Tryd.underlying36 infoN rfl (by decide) (by decide) (.slice (some ⟨b5, 0, none⟩) n c5) (L1.map sNd) [sNd (newNd x1 u k i)] (some ⟨g11_, 0, none⟩) 1 1 (fun _ => True) (fun _ => False) (eval_of e57) (eval_of e68) R5.out (Kd.R_reads' hlit_).2.2 (fun x_ cs_ h_ => by obtain rfl := k44_open h_; exact k44_mkM _ _ _ _) (fun _ hk => hk.elim) (fun _ _ => trivial) HB.out HB.out.size (by have h_ := HLN.out; omega) ?_
           intro u5 w1 ho hb hg hat
           refine hK.out _ _ ⟨g11_, u5, m11_, m13_, (by rw [ha.out]; exact putSel_upk 7 hb_ rfl rfl rfl), hb, blk_grown GB.out hg (Kd.R_ne R5.out GB.out (by decide)), Kd.R_over' (v := (.slice (some ⟨b5, 0, none⟩) n c5)) R6.out (Kd.R_typed R5.out) (by decide) hg, blk_grown BK.out hg (Kd.R_ne R5.out BK.out (by decide)), Nat.le_trans SZ.out hg.size, fun h0_ => absurd ((up_self b 12).symm.trans h0_) (by decide), fun _ => ho, fun _ h1_ => absurd ((up_self b 12).symm.trans h1_) (by decide), Q_X11_, fun h0_ => absurd ((hoff 13 (by kernel_rfl)).symm.trans h0_) (by decide)⟩
          refine steps_cons ?_ ?_
          ·rintro b a w' ⟨g11_, u5_, m11_, m13_, ha, Q_HB, Q_GB, Q_R6, Q_BK, Q_SZ, Q_R5, Q_U5, Q_L0, Q_X11_, Q_X13_⟩ hb_ hon hoff
           refine ⟨_, rfl, fun K hK => ?_⟩
           have e69 : a.tmps[69]? = some (u5_) := by rw [ha]; exact putSel_on (e := (12, 69, u5_)) 7 rfl rfl (hon 12 (by kernel_rfl)) rfl
           replace ha := am ha
           have HB := am Q_HB
           have GB := am Q_GB
           have R6 := am Q_R6
           have BK := am Q_BK
           have SZ := am Q_SZ
           have U5 := am (Q_U5 (hon 12 (by kernel_rfl)))
           refine value_ (w1 := w') (v := u5_) (by rfl) rfl ?_ ?_
           ·go_simp
            (try simp only [i64_w])
            try rfl
           refine hK.out _ _ ⟨g11_, u5_, m11_, (u5_), (by rw [ha.out]; exact putSel_upk 8 hb_ rfl rfl rfl), Q_HB, Q_GB, Q_R6, Q_BK, Q_SZ, fun h0_ => absurd ((hon 12 (by kernel_rfl)).symm.trans h0_) (by decide), Q_U5, fun _ h1_ => absurd ((hon 12 (by kernel_rfl)).symm.trans h1_) (by decide), Q_X11_, fun _ => rfl⟩
          exact steps_nil
         ·rintro b a w' hall ⟨g11_, u5_, m11_, m13_, ha, Q_HB, Q_GB, Q_R6, Q_BK, Q_SZ, Q_R5, Q_U5, Q_L0, Q_X11_, Q_X13_⟩
          clear BK GB HB R5 R6 SZ
          have hb1_ := hall 1 (by kernel_rfl)
          have hb4_ := hall 4 (by kernel_rfl)
          have hb5_ := hall 5 (by kernel_rfl)
          have hb6_ := hall 6 (by kernel_rfl)
          have hb7_ := hall 7 (by kernel_rfl)
          have hb10_ := hall 10 (by kernel_rfl)
          have hb11_ := hall 11 (by kernel_rfl)
          have hb12_ := hall 12 (by kernel_rfl)
          have hb13_ := hall 13 (by kernel_rfl)
          subst ha
          obtain rfl := Q_X11_ hb11_
          obtain rfl := Q_X13_ hb13_
          simp only [putSel, hb1_, hb4_, hb5_, hb6_, hb7_, hb10_, hb11_, hb12_, hb13_, if_true, Act.put, List.setIfInBounds_toArray, List.set_cons_zero, List.set_cons_succ]
          have HB := am Q_HB
          clear Q_HB
          have GB := am Q_GB
          clear Q_GB
          have R6 := am Q_R6
          clear Q_R6
          have BK := am Q_BK
          clear Q_BK
          have SZ := am Q_SZ
          clear Q_SZ
          clear Q_R5
          have U5 := am (Q_U5 hb12_)
          clear Q_U5
          clear Q_L0
          clear hall hb1_ hb4_ hb5_ hb6_ hb7_ hb10_ hb11_ hb12_ hb13_
          have hg0 : w'.cell? ⟨G, 0, none⟩ = some (.int .i64 gw) := blk_cell GB.out 0
          have hg1 : w'.cell? ⟨G, 1, none⟩ = some (.int .i64 gh) := blk_cell GB.out 1
          have hg2 : w'.cell? ⟨G, 2, none⟩ = some (.slice A0 nl c0) := blk_cell GB.out 2
          have ho0 : w'.cell? ⟨go_, 0, none⟩ = some (.int .i64 u.x) := blk_cell BK.out 0
          have ho1 : w'.cell? ⟨go_, 1, none⟩ = some (.int .i64 u.y) := blk_cell BK.out 1
          have ho2 : w'.cell? ⟨go_, 2, none⟩ = some (.int .i64 u.d.t) := blk_cell BK.out 2
          have ho3 : w'.cell? ⟨go_, 3, none⟩ = some (.int .i64 u.d.n) := blk_cell BK.out 3
          have ho4 : w'.cell? ⟨go_, 4, none⟩ = some (.int .i64 u.d.e) := blk_cell BK.out 4
          have ho5 : w'.cell? ⟨go_, 5, none⟩ = some (.int .i64 u.d.s) := blk_cell BK.out 5
          have ho6 : w'.cell? ⟨go_, 6, none⟩ = some (.int .i64 u.d.w) := blk_cell BK.out 6
          have ho7 : w'.cell? ⟨go_, 7, none⟩ = some (.int .i64 u.d.b) := blk_cell BK.out 7
          go_wp2_with (first | ((with_reducible refine gate_callee (f := 38) rfl ?_); refine goesL_ (some 73) rfl rfl Tryd.func38 (by kernel_rfl) rfl #[.agg #[.int .i64 gw, .int .i64 gh, .slice A0 nl c0], .agg #[.int .i64 u.x, .int .i64 u.y, .int .i64 u.d.t, .int .i64 u.d.n, .int .i64 u.d.e, .int .i64 u.d.s, .int .i64 u.d.w, .int .i64 u.d.b]] rfl (by (try simp only [List.map_toArray, List.map_cons, List.map_nil]); first | done | rfl | (simp only [List.length_drop, List.length_take]; rfl)) ?_; (with_reducible refine (HCODE.out u HGU.out _ (by repeat (first | (with_reducible first | exact HB.out | apply below_alloc | apply pw_below_drewN | apply below_drew1) | exact HB.out))).mono ?_); rintro e w16 ⟨rfl, hb⟩; refine ⟨_, rfl, ?_⟩; have n_U5 := hid (Kd.R_below (by (with_reducible repeat (first | apply Kd.R_alloc | apply Kd.R_drewN | apply Kd.R_drew)); exact U5.out) hb); have n_R6 := hid (Kd.R_below (by (with_reducible repeat (first | apply Kd.R_alloc | apply Kd.R_drewN | apply Kd.R_drew)); exact R6.out) hb); have n_GB := hid (blk_below (by (with_reducible repeat (first | refine blk_drewN ?_ _ | refine blk_drew ?_ | refine blk_alloc ?_ _)); exact GB.out) hb); have n_HB := hid (below_step (by repeat (first | (with_reducible first | exact HB.out | apply below_alloc | apply pw_below_drewN | apply below_drew1) | exact HB.out)) hb); (try clear U5); (try clear R6); (try clear GB); (try clear HB); have U5 := n_U5; have R6 := n_R6; have GB := n_GB; have HB := n_HB; clear n_U5 n_R6 n_GB n_HB; clear hb) | ((with_reducible refine gate_builtin (b := .append) (xs := #[.tmp 70, .tmp 74]) rfl ?_); at_builtin; refine Kd.R_append (Kd.int .i64) (w0 := w) w.heap.size rfl (.tmp 70) (.tmp 74) 39 3 (.int .i64 0) 8 rfl Tryd.underlying39 infoI rfl (by decide) (by omega) (.slice (some ⟨b6, 0, none⟩) n c6) (codes code L1) (code u) [.int .i64 (code u)] (fun _ => True) (fun _ => False) rfl rfl ?aP (fun _ hk => hk.elim) ?aF ?aO ?aB ?aS ?aL ?_; (case aP => exact rfl); (case aB => exact (by repeat (first | (with_reducible first | exact HB.out | apply below_alloc | apply pw_below_drewN | apply below_drew1) | exact HB.out))); (case aF => exact (fun _ _ => trivial)); (case aO => exact (by (with_reducible repeat (first | apply Kd.R_alloc | apply Kd.R_drewN | apply Kd.R_drew)); exact R6.out)); (case aS => exact (below_size (by repeat (first | (with_reducible first | exact HB.out | apply below_alloc | apply pw_below_drewN | apply below_drew1) | exact HB.out)))); (case aL => have h_ := HCL.out; omega); intro v6 w17 ho hb hg hat; have n_GB := hid (blk_grown (by (with_reducible repeat (first | refine blk_drewN ?_ _ | refine blk_drew ?_ | refine blk_alloc ?_ _)); exact GB.out) hg (Kd.R_ne R6.out GB.out (by decide))); have n_U5 := hid (Kd.R_over' (by (with_reducible repeat (first | apply Kd.R_alloc | apply Kd.R_drewN | apply Kd.R_drew)); exact U5.out) (Kd.R_typed (by (with_reducible repeat (first | apply Kd.R_alloc | apply Kd.R_drewN | apply Kd.R_drew)); exact R6.out)) (by decide) hg); have n_HB := hid (hb); have n_R6 := hid (ho); (try clear GB); (try clear U5); (try clear HB); (try clear R6); have GB := n_GB; have U5 := n_U5; have HB := n_HB; have R6 := n_R6; clear n_GB n_U5 n_HB n_R6; clear ho hb hg hat))
          go_meet
          exact ⟨_, _, rfl, rfl, by rw [atOf, if_pos HPN.out, ← HN1.out], by rw [grow, if_pos HPN.out, List.map_append]; exact U5.out, by rw [grow, if_pos HPN.out, codes, List.map_append]; exact R6.out, GB.out, HG.out, HB.out⟩
        ·have HPP := hid hp
         have hpb : decide (pz < 0) = false := decide_eq_false hp
         go_wp2_with fail
         go_meet
         exact ⟨_, _, rfl, rfl, by rw [atOf, if_neg (by have h_ := HPP.out; omega), Int.toNat_of_nonneg (by omega)], by rw [grow, if_neg (by have h_ := HPP.out; omega)]; exact R5.out, by rw [grow, if_neg (by have h_ := HPP.out; omega)]; exact R6.out, GB.out, HG.out, HB.out⟩
       case rest =>
        obtain ⟨N2, ai, hN2, hai, rfl, hrn⟩ := hcut
        have halt := at_lt (newNd x1 u k i) HPZ.out (L1 := L1)
        rw [← hN2, ← hai] at halt
        have hgl := grow_len L1 pz (newNd x1 u k i)
        rw [← hN2, ← HN1.out] at hgl
        obtain ⟨y2, hy2⟩ : ∃ y, N2[ai]? = some y := ⟨_, List.getElem?_eq_getElem halt⟩
        obtain ⟨z2, hz2⟩ : ∃ y, N2[k]? = some y := ⟨_, List.getElem?_eq_getElem (by omega)⟩
        have HST2 := hid (show stepN mo can code M k i = setN (addW N2 k ai) k i ai by rw [HST.out, step1_yes HX1.out HCN.out.symm HU.out HPZ.out, hN2, hai])
        clear HST hN2 hai HPZ HPLC HCL R5 R6 GB HB BK
        obtain ⟨b5, c5, hv5, _, _⟩ := R_form hrn.r5 (by simp; omega)
        obtain ⟨b6, c6, hv6, _, _⟩ := R_form hrn.r6 (by simp; omega)
        rw [List.length_map] at hv5 hv6
        obtain ⟨m, hm⟩ : ∃ m, m = N2.length := ⟨_, rfl⟩
        rw [← hm] at hv5 hv6 halt
        have hkm : k < m := by omega
        subst hv5 hv6
        have R5 := hid hrn.r5
        have R6 := hid hrn.r6
        have GB := hid hrn.blk
        have HB := hid hrn.bel
        have HM := hid hm
        have HY := hid hy2
        have HZ := hid hz2
        clear hrn hm hgl
        obtain ⟨eqb, heqb⟩ : ∃ e, e = decide (y2.far = IntKind.i64.wrap (z2.far + 1)) := ⟨_, rfl⟩
        have HEQ := hid heqb
        clear heqb
        go_upto_region 17 with fail
        refine start_ (n := 12) (S := fun w' => True) (ds := []) #[ff, ff, ff, ff, ff, ff, ff, ff, ff, ff, ff, ff] (by kernel_rfl) rfl rfl trivial (fun hHeld => ?_)
        refine with_tabW wya.tab17 wya.bits17 (fun HT_ HW_ => ?_)
        have n_HB := hid (below_drew HB.out)
        have n_GB := hid (blk_drew GB.out)
        have n_R5 := hid (Kd.R_drew R5.out)
        have n_R6 := hid (Kd.R_drew R6.out)
        clear HB GB R5 R6
        have HB := n_HB
        have GB := n_GB
        have R5 := n_R5
        have R6 := n_R6
        clear n_HB n_GB n_R5 n_R6
        generalize World.drew _ = w17 at HB GB R5 R6 hHeld ⊢
        refine pure_ (i := 0) (N := some 76) (v := ?_) (a' := ?_) #[tt, ff, ff, ff, ff, ff, ff, ff, ff, ff, ff, ff] rfl rfl (any_of HT_.out (by kernel_rfl)) (fun _ _ _ h => h) (Or.inl ⟨by rfl, ?_⟩) ?_ ?_
        rotate_left
        ·intro w'
         go_simp
         with_reducible rfl
        rotate_left
        ·simp only [Act.put, List.setIfInBounds_toArray, List.set_cons_zero, List.set_cons_succ, i64_w, i32_w]
         rfl
        refine pure_ (i := 1) (N := some 77) (v := ?_) (a' := ?_) #[tt, tt, ff, ff, ff, ff, ff, ff, ff, ff, ff, ff] rfl rfl (any_of HT_.out (by kernel_rfl)) (fun _ _ _ h => h) (Or.inl ⟨by rfl, ?_⟩) ?_ ?_
        rotate_left
        ·intro w'
         go_simp
         with_reducible rfl
        rotate_left
        ·simp only [Act.put, List.setIfInBounds_toArray, List.set_cons_zero, List.set_cons_succ, i64_w, i32_w]
         rfl
        refine pure_ (i := 5) (N := some 81) (v := ?_) (a' := ?_) #[tt, tt, ff, ff, ff, tt, ff, ff, ff, ff, ff, ff] rfl rfl (any_of HT_.out (by kernel_rfl)) (fun _ _ _ h => h) (Or.inl ⟨by rfl, ?_⟩) ?_ ?_
        rotate_left
        ·intro w'
         go_simp
         with_reducible rfl
        rotate_left
        ·simp only [Act.put, List.setIfInBounds_toArray, List.set_cons_zero, List.set_cons_succ, i64_w, i32_w]
         rfl
        refine pure_ (i := 6) (N := some 82) (v := ?_) (a' := ?_) #[tt, tt, ff, ff, ff, tt, tt, ff, ff, ff, ff, ff] rfl rfl (any_of HT_.out (by kernel_rfl)) (fun _ _ _ h => h) (Or.inl ⟨by rfl, ?_⟩) ?_ ?_
        rotate_left
        ·intro w'
         go_simp
         with_reducible rfl
        rotate_left
        ·simp only [Act.put, List.setIfInBounds_toArray, List.set_cons_zero, List.set_cons_succ, i64_w, i32_w]
         rfl
        refine inv_at [2, 3, 4, 7, 8, 9, 10, 11] (fun a0_ b a w' => a = putSel a0_ b [(2, 78, .pointer (some ⟨b5, ai * 16, none⟩)), (3, 79, .pointer (some ⟨b5, ai * 16 + 8, none⟩)), (4, 80, .int .i64 y2.far), (7, 83, .pointer (some ⟨b5, k * 16, none⟩)), (8, 84, .pointer (some ⟨b5, k * 16 + 8, none⟩)), (9, 85, .int .i64 z2.far), (10, 86, .int .i64 (IntKind.i64.wrap (z2.far + 1))), (11, 87, .bool eqb)] ∧ (Below w.heap.size w w') ∧ (w'.heap[G]? = some (.cells #[.int .i64 gw, .int .i64 gh, .slice A0 nl c0] 73 (0, 0))) ∧ (Kd.R kNd 44 w' w.heap.size (fun _ => True) (.slice (some ⟨b5, 0, none⟩) m c5) (N2.map sNd)) ∧ (Kd.R (Kd.int .i64) 3 w' w.heap.size (fun _ => True) (.slice (some ⟨b6, 0, none⟩) m c6) (codes code N2))) HT_.out HW_.out (by kernel_rfl) (by kernel_rfl) ?_ ?_ ?_
        ·exact ⟨by simp only [putSel, Bool.false_eq_true, if_false], HB.out, GB.out, R5.out, R6.out⟩
        ·skip
         clear GB HB R5 R6
         refine steps_cons ?_ ?_
         ·rintro b a w' ⟨ha, Q_HB, Q_GB, Q_R5, Q_R6⟩ hb_ hon hoff
          refine ⟨_, rfl, fun K hK => ?_⟩
          have e76 : a.tmps[76]? = some (.slice (some ⟨b5, 0, none⟩) m c5) := by rw [ha]; exact (putSel_off rfl).trans rfl
          have e77 : a.tmps[77]? = some (.int .i64 (ai : Int)) := by rw [ha]; exact (putSel_off rfl).trans rfl
          replace ha := am ha
          have HB := am Q_HB
          have GB := am Q_GB
          have R5 := am Q_R5
          have R6 := am Q_R6
          have ha_ : (ai : Int) < (m : Int) := by omega
          refine value_ (w1 := w') (v := .pointer (some ⟨b5, ai * 16, none⟩)) (by rfl) rfl ?_ ?_
          ·go_simp
           (try simp only [i64_w])
           try rfl
          refine hK.out _ _ ⟨(by rw [ha.out]; exact putSel_upk 0 hb_ rfl rfl rfl), Q_HB, Q_GB, Q_R5, Q_R6⟩
         refine steps_cons ?_ ?_
         ·rintro b a w' ⟨ha, Q_HB, Q_GB, Q_R5, Q_R6⟩ hb_ hon hoff
          refine ⟨_, rfl, fun K hK => ?_⟩
          have e78 : a.tmps[78]? = some (.pointer (some ⟨b5, ai * 16, none⟩)) := by rw [ha]; exact putSel_on (e := (2, 78, .pointer (some ⟨b5, ai * 16, none⟩))) 0 rfl rfl (hon 2 (by kernel_rfl)) rfl
          replace ha := am ha
          have HB := am Q_HB
          have GB := am Q_GB
          have R5 := am Q_R5
          have R6 := am Q_R6
          refine value_ (w1 := w') (v := .pointer (some ⟨b5, ai * 16 + 8, none⟩)) (by rfl) rfl ?_ ?_
          ·go_simp
           (try simp only [i64_w])
           try rfl
          refine hK.out _ _ ⟨(by rw [ha.out]; exact putSel_upk 1 hb_ rfl rfl rfl), Q_HB, Q_GB, Q_R5, Q_R6⟩
         refine steps_cons ?_ ?_
         ·rintro b a w' ⟨ha, Q_HB, Q_GB, Q_R5, Q_R6⟩ hb_ hon hoff
          refine ⟨_, rfl, fun K hK => ?_⟩
          have e79 : a.tmps[79]? = some (.pointer (some ⟨b5, ai * 16 + 8, none⟩)) := by rw [ha]; exact putSel_on (e := (3, 79, .pointer (some ⟨b5, ai * 16 + 8, none⟩))) 1 rfl rfl (hon 3 (by kernel_rfl)) rfl
          replace ha := am ha
          have HB := am Q_HB
          have GB := am Q_GB
          have R5 := am Q_R5
          have R6 := am Q_R6
          have c_ : w'.cell? ⟨b5, ai * 16 + 8, none⟩ = some (.int .i64 y2.far) := (nd_elem R5.out ai y2 HY.out).1 8 _ rfl
          refine value_ (w1 := w') (v := .int .i64 y2.far) (by rfl) rfl ?_ ?_
          ·go_simp
           (try simp only [i64_w])
           try rfl
          refine hK.out _ _ ⟨(by rw [ha.out]; exact putSel_upk 2 hb_ rfl rfl rfl), Q_HB, Q_GB, Q_R5, Q_R6⟩
         refine steps_cons ?_ ?_
         ·rintro b a w' ⟨ha, Q_HB, Q_GB, Q_R5, Q_R6⟩ hb_ hon hoff
          refine ⟨_, rfl, fun K hK => ?_⟩
          have e81 : a.tmps[81]? = some (.slice (some ⟨b5, 0, none⟩) m c5) := by rw [ha]; exact (putSel_off rfl).trans rfl
          have e82 : a.tmps[82]? = some (.int .i64 (k : Int)) := by rw [ha]; exact (putSel_off rfl).trans rfl
          replace ha := am ha
          have HB := am Q_HB
          have GB := am Q_GB
          have R5 := am Q_R5
          have R6 := am Q_R6
          have hk_ : (k : Int) < (m : Int) := by omega
          refine value_ (w1 := w') (v := .pointer (some ⟨b5, k * 16, none⟩)) (by rfl) rfl ?_ ?_
          ·go_simp
           (try simp only [i64_w])
           try rfl
          refine hK.out _ _ ⟨(by rw [ha.out]; exact putSel_upk 3 hb_ rfl rfl rfl), Q_HB, Q_GB, Q_R5, Q_R6⟩
         refine steps_cons ?_ ?_
         ·rintro b a w' ⟨ha, Q_HB, Q_GB, Q_R5, Q_R6⟩ hb_ hon hoff
          refine ⟨_, rfl, fun K hK => ?_⟩
          have e83 : a.tmps[83]? = some (.pointer (some ⟨b5, k * 16, none⟩)) := by rw [ha]; exact putSel_on (e := (7, 83, .pointer (some ⟨b5, k * 16, none⟩))) 3 rfl rfl (hon 7 (by kernel_rfl)) rfl
          replace ha := am ha
          have HB := am Q_HB
          have GB := am Q_GB
          have R5 := am Q_R5
          have R6 := am Q_R6
          refine value_ (w1 := w') (v := .pointer (some ⟨b5, k * 16 + 8, none⟩)) (by rfl) rfl ?_ ?_
          ·go_simp
           (try simp only [i64_w])
           try rfl
          refine hK.out _ _ ⟨(by rw [ha.out]; exact putSel_upk 4 hb_ rfl rfl rfl), Q_HB, Q_GB, Q_R5, Q_R6⟩
         refine steps_cons ?_ ?_
         ·rintro b a w' ⟨ha, Q_HB, Q_GB, Q_R5, Q_R6⟩ hb_ hon hoff
          refine ⟨_, rfl, fun K hK => ?_⟩
          have e84 : a.tmps[84]? = some (.pointer (some ⟨b5, k * 16 + 8, none⟩)) := by rw [ha]; exact putSel_on (e := (8, 84, .pointer (some ⟨b5, k * 16 + 8, none⟩))) 4 rfl rfl (hon 8 (by kernel_rfl)) rfl
          replace ha := am ha
          have HB := am Q_HB
          have GB := am Q_GB
          have R5 := am Q_R5
          have R6 := am Q_R6
          have c_ : w'.cell? ⟨b5, k * 16 + 8, none⟩ = some (.int .i64 z2.far) := (nd_elem R5.out k z2 HZ.out).1 8 _ rfl
          refine value_ (w1 := w') (v := .int .i64 z2.far) (by rfl) rfl ?_ ?_
          ·go_simp
           (try simp only [i64_w])
           try rfl
          refine hK.out _ _ ⟨(by rw [ha.out]; exact putSel_upk 5 hb_ rfl rfl rfl), Q_HB, Q_GB, Q_R5, Q_R6⟩
         refine steps_cons ?_ ?_
         ·rintro b a w' ⟨ha, Q_HB, Q_GB, Q_R5, Q_R6⟩ hb_ hon hoff
          refine ⟨_, rfl, fun K hK => ?_⟩
          have e85 : a.tmps[85]? = some (.int .i64 z2.far) := by rw [ha]; exact putSel_on (e := (9, 85, .int .i64 z2.far)) 5 rfl rfl (hon 9 (by kernel_rfl)) rfl
          replace ha := am ha
          have HB := am Q_HB
          have GB := am Q_GB
          have R5 := am Q_R5
          have R6 := am Q_R6
          refine value_ (w1 := w') (v := .int .i64 (IntKind.i64.wrap (z2.far + 1))) (by rfl) rfl ?_ ?_
          ·go_simp
           (try simp only [i64_w])
           try rfl
          refine hK.out _ _ ⟨(by rw [ha.out]; exact putSel_upk 6 hb_ rfl rfl rfl), Q_HB, Q_GB, Q_R5, Q_R6⟩
         refine steps_cons ?_ ?_
         ·rintro b a w' ⟨ha, Q_HB, Q_GB, Q_R5, Q_R6⟩ hb_ hon hoff
          refine ⟨_, rfl, fun K hK => ?_⟩
          have e80 : a.tmps[80]? = some (.int .i64 y2.far) := by rw [ha]; exact putSel_on (e := (4, 80, .int .i64 y2.far)) 2 rfl rfl (hon 4 (by kernel_rfl)) rfl
          have e86 : a.tmps[86]? = some (.int .i64 (IntKind.i64.wrap (z2.far + 1))) := by rw [ha]; exact putSel_on (e := (10, 86, .int .i64 (IntKind.i64.wrap (z2.far + 1)))) 6 rfl rfl (hon 10 (by kernel_rfl)) rfl
          replace ha := am ha
          have HB := am Q_HB
          have GB := am Q_GB
          have R5 := am Q_R5
          have R6 := am Q_R6
          have hqe_ : decide (y2.far = IntKind.i64.wrap (z2.far + 1)) = eqb := HEQ.out.symm
          have hqf_ : (y2.far == IntKind.i64.wrap (z2.far + 1)) = eqb := HEQ.out.symm
          refine value_ (w1 := w') (v := .bool eqb) (by rfl) rfl ?_ ?_
          ·go_simp
           (try simp only [i64_w])
           try rfl
          refine hK.out _ _ ⟨(by rw [ha.out]; exact putSel_upk 7 hb_ rfl rfl rfl), Q_HB, Q_GB, Q_R5, Q_R6⟩
         exact steps_nil
        ·rintro b a w' hall ⟨ha, Q_HB, Q_GB, Q_R5, Q_R6⟩
         clear GB HB R5 R6
         have hb2_ := hall 2 (by kernel_rfl)
         have hb3_ := hall 3 (by kernel_rfl)
         have hb4_ := hall 4 (by kernel_rfl)
         have hb7_ := hall 7 (by kernel_rfl)
         have hb8_ := hall 8 (by kernel_rfl)
         have hb9_ := hall 9 (by kernel_rfl)
         have hb10_ := hall 10 (by kernel_rfl)
         have hb11_ := hall 11 (by kernel_rfl)
         subst ha
         simp only [putSel, hb2_, hb3_, hb4_, hb7_, hb8_, hb9_, hb10_, hb11_, if_true, Act.put, List.setIfInBounds_toArray, List.set_cons_zero, List.set_cons_succ]
         have HB := am Q_HB
         clear Q_HB
         have GB := am Q_GB
         clear Q_GB
         have R5 := am Q_R5
         clear Q_R5
         have R6 := am Q_R6
         clear Q_R6
         clear hall hb2_ hb3_ hb4_ hb7_ hb8_ hb9_ hb10_ hb11_
         cases eqb with
         | false =>
          have HAD := hid (show addW N2 k ai = N2 from addW_no HY.out HZ.out (of_decide_eq_false HEQ.out.symm))
          have hkn : (k : Int) < (m : Int) := by omega
          have hat_ := nd_at R5.out k (12 + i) z2 HZ.out (by omega)
          simp only [← Nat.add_assoc] at hat_
          obtain ⟨⟨ov, hov⟩, hof⟩ := hat_
          have hput_ := nd_put R5.out k (12 + i) (ai : Int) z2 (z2.next i (ai : Int)) HZ.out (by omega) (nd_next z2 i hi4 (ai : Int))
          simp only [← Nat.add_assoc] at hput_
          have hc4 := codes_set code N2 k z2 _ HZ.out (next_s z2 i (ai : Int))
          have HC4 := hid hc4
          have HP := hid hput_
          clear hput_ hc4
          go_wp2_with fail
          go_roundw
          case rel => exact ⟨i + 1, by go_num, by omega, by
           rw [HNX.out, HST2.out, HAD.out, setN_eq HZ.out]
           exact ⟨HP.out.1, by rw [HC4.out]; exact Kd.R_over' (v := (.slice (some ⟨b5, 0, none⟩) m c5)) R6.out (Kd.R_typed R5.out) (by decide) HP.out.2, blk_grown GB.out HP.out.2 (Kd.R_ne R5.out GB.out (by decide)), HG.out, below_set HB.out (R_big R5.out)⟩⟩
          case measure => simp [intOf]; omega
         | true =>
          have HAD := hid (show addW N2 k ai = N2.set ai { y2 with words := IntKind.i64.wrap (y2.words + z2.words) } from addW_yes HY.out HZ.out (of_decide_eq_true HEQ.out.symm))
          go_upto_region 18 with fail
          refine start_ (n := 14) (S := fun w' => True) (ds := []) #[ff, ff, ff, ff, ff, ff, ff, ff, ff, ff, ff, ff, ff, ff] (by kernel_rfl) rfl rfl trivial (fun hHeld => ?_)
          refine with_tabW wya.tab18 wya.bits18 (fun HT_ HW_ => ?_)
          have n_HB := hid (below_drew HB.out)
          have n_GB := hid (blk_drew GB.out)
          have n_R5 := hid (Kd.R_drew R5.out)
          have n_R6 := hid (Kd.R_drew R6.out)
          clear HB GB R5 R6
          have HB := n_HB
          have GB := n_GB
          have R5 := n_R5
          have R6 := n_R6
          clear n_HB n_GB n_R5 n_R6
          generalize World.drew _ = w18 at HB GB R5 R6 hHeld ⊢
          refine pure_ (i := 0) (N := some 88) (v := ?_) (a' := ?_) #[tt, ff, ff, ff, ff, ff, ff, ff, ff, ff, ff, ff, ff, ff] rfl rfl (any_of HT_.out (by kernel_rfl)) (fun _ _ _ h => h) (Or.inl ⟨by rfl, ?_⟩) ?_ ?_
          rotate_left
          ·intro w'
           go_simp
           with_reducible rfl
          rotate_left
          ·simp only [Act.put, List.setIfInBounds_toArray, List.set_cons_zero, List.set_cons_succ, i64_w, i32_w]
           rfl
          refine pure_ (i := 1) (N := some 89) (v := ?_) (a' := ?_) #[tt, tt, ff, ff, ff, ff, ff, ff, ff, ff, ff, ff, ff, ff] rfl rfl (any_of HT_.out (by kernel_rfl)) (fun _ _ _ h => h) (Or.inl ⟨by rfl, ?_⟩) ?_ ?_
          rotate_left
          ·intro w'
           go_simp
           with_reducible rfl
          rotate_left
          ·simp only [Act.put, List.setIfInBounds_toArray, List.set_cons_zero, List.set_cons_succ, i64_w, i32_w]
           rfl
          refine pure_ (i := 5) (N := some 93) (v := ?_) (a' := ?_) #[tt, tt, ff, ff, ff, tt, ff, ff, ff, ff, ff, ff, ff, ff] rfl rfl (any_of HT_.out (by kernel_rfl)) (fun _ _ _ h => h) (Or.inl ⟨by rfl, ?_⟩) ?_ ?_
          rotate_left
          ·intro w'
           go_simp
           with_reducible rfl
          rotate_left
          ·simp only [Act.put, List.setIfInBounds_toArray, List.set_cons_zero, List.set_cons_succ, i64_w, i32_w]
           rfl
          refine pure_ (i := 6) (N := some 94) (v := ?_) (a' := ?_) #[tt, tt, ff, ff, ff, tt, tt, ff, ff, ff, ff, ff, ff, ff] rfl rfl (any_of HT_.out (by kernel_rfl)) (fun _ _ _ h => h) (Or.inl ⟨by rfl, ?_⟩) ?_ ?_
          rotate_left
          ·intro w'
           go_simp
           with_reducible rfl
          rotate_left
          ·simp only [Act.put, List.setIfInBounds_toArray, List.set_cons_zero, List.set_cons_succ, i64_w, i32_w]
           rfl
          refine inv_at [2, 3, 4, 7, 8, 9, 10, 11, 12, 13] (fun a0_ b a w' => a = putSel a0_ b [(2, 90, .pointer (some ⟨b5, ai * 16, none⟩)), (3, 91, .pointer (some ⟨b5, ai * 16 + 9, none⟩)), (4, 92, .int .i64 y2.words), (7, 95, .pointer (some ⟨b5, k * 16, none⟩)), (8, 96, .pointer (some ⟨b5, k * 16 + 9, none⟩)), (9, 97, .int .i64 z2.words), (10, 98, .int .i64 (IntKind.i64.wrap (y2.words + z2.words))), (11, 99, .pointer (some ⟨b5, ai * 16, none⟩)), (12, 100, .pointer (some ⟨b5, ai * 16 + 9, none⟩))] ∧ (Below w.heap.size w w') ∧ (w'.heap[G]? = some (.cells #[.int .i64 gw, .int .i64 gh, .slice A0 nl c0] 73 (0, 0))) ∧ (Kd.R (Kd.int .i64) 3 w' w.heap.size (fun _ => True) (.slice (some ⟨b6, 0, none⟩) m c6) (codes code N2)) ∧ (b 13 = false → Kd.R kNd 44 w' w.heap.size (fun _ => True) (.slice (some ⟨b5, 0, none⟩) m c5) (N2.map sNd)) ∧ (b 13 = true → Kd.R kNd 44 w' w.heap.size (fun _ => True) (.slice (some ⟨b5, 0, none⟩) m c5) ((N2.set ai { y2 with words := (IntKind.i64.wrap (y2.words + z2.words)) }).map sNd))) HT_.out HW_.out (by kernel_rfl) (by kernel_rfl) ?_ ?_ ?_
          ·exact ⟨by simp only [putSel, Bool.false_eq_true, if_false], HB.out, GB.out, R6.out, fun _ => R5.out, fun h_ => absurd h_ (by decide)⟩
          ·skip
           clear GB HB R5 R6
           refine steps_cons ?_ ?_
           ·rintro b a w' ⟨ha, Q_HB, Q_GB, Q_R6, Q_R5, Q_P5⟩ hb_ hon hoff
            refine ⟨_, rfl, fun K hK => ?_⟩
            have e88 : a.tmps[88]? = some (.slice (some ⟨b5, 0, none⟩) m c5) := by rw [ha]; exact (putSel_off rfl).trans rfl
            have e89 : a.tmps[89]? = some (.int .i64 (ai : Int)) := by rw [ha]; exact (putSel_off rfl).trans rfl
            replace ha := am ha
            have HB := am Q_HB
            have GB := am Q_GB
            have R6 := am Q_R6
            have R5 := am (Q_R5 (hoff 13 (by kernel_rfl)))
            have ha_ : (ai : Int) < (m : Int) := by omega
            refine value_ (w1 := w') (v := .pointer (some ⟨b5, ai * 16, none⟩)) (by rfl) rfl ?_ ?_
            ·go_simp
             (try simp only [i64_w])
             try rfl
            refine hK.out _ _ ⟨(by rw [ha.out]; exact putSel_upk 0 hb_ rfl rfl rfl), Q_HB, Q_GB, Q_R6, Q_R5, fun h0_ => absurd ((hoff 13 (by kernel_rfl)).symm.trans h0_) (by decide)⟩
           refine steps_cons ?_ ?_
           ·rintro b a w' ⟨ha, Q_HB, Q_GB, Q_R6, Q_R5, Q_P5⟩ hb_ hon hoff
            refine ⟨_, rfl, fun K hK => ?_⟩
            have e90 : a.tmps[90]? = some (.pointer (some ⟨b5, ai * 16, none⟩)) := by rw [ha]; exact putSel_on (e := (2, 90, .pointer (some ⟨b5, ai * 16, none⟩))) 0 rfl rfl (hon 2 (by kernel_rfl)) rfl
            replace ha := am ha
            have HB := am Q_HB
            have GB := am Q_GB
            have R6 := am Q_R6
            have R5 := am (Q_R5 (hoff 13 (by kernel_rfl)))
            refine value_ (w1 := w') (v := .pointer (some ⟨b5, ai * 16 + 9, none⟩)) (by rfl) rfl ?_ ?_
            ·go_simp
             (try simp only [i64_w])
             try rfl
            refine hK.out _ _ ⟨(by rw [ha.out]; exact putSel_upk 1 hb_ rfl rfl rfl), Q_HB, Q_GB, Q_R6, Q_R5, fun h0_ => absurd ((hoff 13 (by kernel_rfl)).symm.trans h0_) (by decide)⟩
           refine steps_cons ?_ ?_
           ·rintro b a w' ⟨ha, Q_HB, Q_GB, Q_R6, Q_R5, Q_P5⟩ hb_ hon hoff
            refine ⟨_, rfl, fun K hK => ?_⟩
            have e91 : a.tmps[91]? = some (.pointer (some ⟨b5, ai * 16 + 9, none⟩)) := by rw [ha]; exact putSel_on (e := (3, 91, .pointer (some ⟨b5, ai * 16 + 9, none⟩))) 1 rfl rfl (hon 3 (by kernel_rfl)) rfl
            replace ha := am ha
            have HB := am Q_HB
            have GB := am Q_GB
            have R6 := am Q_R6
            have R5 := am (Q_R5 (hoff 13 (by kernel_rfl)))
            have c_ : w'.cell? ⟨b5, ai * 16 + 9, none⟩ = some (.int .i64 y2.words) := (nd_elem R5.out ai y2 HY.out).1 9 _ rfl
            refine value_ (w1 := w') (v := .int .i64 y2.words) (by rfl) rfl ?_ ?_
            ·go_simp
             (try simp only [i64_w])
             try rfl
            refine hK.out _ _ ⟨(by rw [ha.out]; exact putSel_upk 2 hb_ rfl rfl rfl), Q_HB, Q_GB, Q_R6, Q_R5, fun h0_ => absurd ((hoff 13 (by kernel_rfl)).symm.trans h0_) (by decide)⟩
           refine steps_cons ?_ ?_
           ·rintro b a w' ⟨ha, Q_HB, Q_GB, Q_R6, Q_R5, Q_P5⟩ hb_ hon hoff
            refine ⟨_, rfl, fun K hK => ?_⟩
            have e93 : a.tmps[93]? = some (.slice (some ⟨b5, 0, none⟩) m c5) := by rw [ha]; exact (putSel_off rfl).trans rfl
            have e94 : a.tmps[94]? = some (.int .i64 (k : Int)) := by rw [ha]; exact (putSel_off rfl).trans rfl
            replace ha := am ha
            have HB := am Q_HB
            have GB := am Q_GB
            have R6 := am Q_R6
            have R5 := am (Q_R5 (hoff 13 (by kernel_rfl)))
            have hk_ : (k : Int) < (m : Int) := by omega
            refine value_ (w1 := w') (v := .pointer (some ⟨b5, k * 16, none⟩)) (by rfl) rfl ?_ ?_
            ·go_simp
             (try simp only [i64_w])
             try rfl
            refine hK.out _ _ ⟨(by rw [ha.out]; exact putSel_upk 3 hb_ rfl rfl rfl), Q_HB, Q_GB, Q_R6, Q_R5, fun h0_ => absurd ((hoff 13 (by kernel_rfl)).symm.trans h0_) (by decide)⟩
           refine steps_cons ?_ ?_
           ·rintro b a w' ⟨ha, Q_HB, Q_GB, Q_R6, Q_R5, Q_P5⟩ hb_ hon hoff
            refine ⟨_, rfl, fun K hK => ?_⟩
            have e95 : a.tmps[95]? = some (.pointer (some ⟨b5, k * 16, none⟩)) := by rw [ha]; exact putSel_on (e := (7, 95, .pointer (some ⟨b5, k * 16, none⟩))) 3 rfl rfl (hon 7 (by kernel_rfl)) rfl
            replace ha := am ha
            have HB := am Q_HB
            have GB := am Q_GB
            have R6 := am Q_R6
            have R5 := am (Q_R5 (hoff 13 (by kernel_rfl)))
            refine value_ (w1 := w') (v := .pointer (some ⟨b5, k * 16 + 9, none⟩)) (by rfl) rfl ?_ ?_
            ·go_simp
             (try simp only [i64_w])
             try rfl
            refine hK.out _ _ ⟨(by rw [ha.out]; exact putSel_upk 4 hb_ rfl rfl rfl), Q_HB, Q_GB, Q_R6, Q_R5, fun h0_ => absurd ((hoff 13 (by kernel_rfl)).symm.trans h0_) (by decide)⟩
           refine steps_cons ?_ ?_
           ·rintro b a w' ⟨ha, Q_HB, Q_GB, Q_R6, Q_R5, Q_P5⟩ hb_ hon hoff
            refine ⟨_, rfl, fun K hK => ?_⟩
            have e96 : a.tmps[96]? = some (.pointer (some ⟨b5, k * 16 + 9, none⟩)) := by rw [ha]; exact putSel_on (e := (8, 96, .pointer (some ⟨b5, k * 16 + 9, none⟩))) 4 rfl rfl (hon 8 (by kernel_rfl)) rfl
            replace ha := am ha
            have HB := am Q_HB
            have GB := am Q_GB
            have R6 := am Q_R6
            have R5 := am (Q_R5 (hoff 13 (by kernel_rfl)))
            have c_ : w'.cell? ⟨b5, k * 16 + 9, none⟩ = some (.int .i64 z2.words) := (nd_elem R5.out k z2 HZ.out).1 9 _ rfl
            refine value_ (w1 := w') (v := .int .i64 z2.words) (by rfl) rfl ?_ ?_
            ·go_simp
             (try simp only [i64_w])
             try rfl
            refine hK.out _ _ ⟨(by rw [ha.out]; exact putSel_upk 5 hb_ rfl rfl rfl), Q_HB, Q_GB, Q_R6, Q_R5, fun h0_ => absurd ((hoff 13 (by kernel_rfl)).symm.trans h0_) (by decide)⟩
           refine steps_cons ?_ ?_
           ·rintro b a w' ⟨ha, Q_HB, Q_GB, Q_R6, Q_R5, Q_P5⟩ hb_ hon hoff
            refine ⟨_, rfl, fun K hK => ?_⟩
            have e92 : a.tmps[92]? = some (.int .i64 y2.words) := by rw [ha]; exact putSel_on (e := (4, 92, .int .i64 y2.words)) 2 rfl rfl (hon 4 (by kernel_rfl)) rfl
            have e97 : a.tmps[97]? = some (.int .i64 z2.words) := by rw [ha]; exact putSel_on (e := (9, 97, .int .i64 z2.words)) 5 rfl rfl (hon 9 (by kernel_rfl)) rfl
            replace ha := am ha
            have HB := am Q_HB
            have GB := am Q_GB
            have R6 := am Q_R6
            have R5 := am (Q_R5 (hoff 13 (by kernel_rfl)))
            refine value_ (w1 := w') (v := .int .i64 (IntKind.i64.wrap (y2.words + z2.words))) (by rfl) rfl ?_ ?_
            ·go_simp
             (try simp only [i64_w])
             try rfl
            refine hK.out _ _ ⟨(by rw [ha.out]; exact putSel_upk 6 hb_ rfl rfl rfl), Q_HB, Q_GB, Q_R6, Q_R5, fun h0_ => absurd ((hoff 13 (by kernel_rfl)).symm.trans h0_) (by decide)⟩
           refine steps_cons ?_ ?_
           ·rintro b a w' ⟨ha, Q_HB, Q_GB, Q_R6, Q_R5, Q_P5⟩ hb_ hon hoff
            refine ⟨_, rfl, fun K hK => ?_⟩
            have e88 : a.tmps[88]? = some (.slice (some ⟨b5, 0, none⟩) m c5) := by rw [ha]; exact (putSel_off rfl).trans rfl
            have e89 : a.tmps[89]? = some (.int .i64 (ai : Int)) := by rw [ha]; exact (putSel_off rfl).trans rfl
            replace ha := am ha
            have HB := am Q_HB
            have GB := am Q_GB
            have R6 := am Q_R6
            have R5 := am (Q_R5 (hoff 13 (by kernel_rfl)))
            have ha_ : (ai : Int) < (m : Int) := by omega
            refine value_ (w1 := w') (v := .pointer (some ⟨b5, ai * 16, none⟩)) (by rfl) rfl ?_ ?_
            ·go_simp
             (try simp only [i64_w])
             try rfl
            refine hK.out _ _ ⟨(by rw [ha.out]; exact putSel_upk 7 hb_ rfl rfl rfl), Q_HB, Q_GB, Q_R6, Q_R5, fun h0_ => absurd ((hoff 13 (by kernel_rfl)).symm.trans h0_) (by decide)⟩
           refine steps_cons ?_ ?_
           ·rintro b a w' ⟨ha, Q_HB, Q_GB, Q_R6, Q_R5, Q_P5⟩ hb_ hon hoff
            refine ⟨_, rfl, fun K hK => ?_⟩
            have e99 : a.tmps[99]? = some (.pointer (some ⟨b5, ai * 16, none⟩)) := by rw [ha]; exact putSel_on (e := (11, 99, .pointer (some ⟨b5, ai * 16, none⟩))) 7 rfl rfl (hon 11 (by kernel_rfl)) rfl
            replace ha := am ha
            have HB := am Q_HB
            have GB := am Q_GB
            have R6 := am Q_R6
            have R5 := am (Q_R5 (hoff 13 (by kernel_rfl)))
            refine value_ (w1 := w') (v := .pointer (some ⟨b5, ai * 16 + 9, none⟩)) (by rfl) rfl ?_ ?_
            ·go_simp
             (try simp only [i64_w])
             try rfl
            refine hK.out _ _ ⟨(by rw [ha.out]; exact putSel_upk 8 hb_ rfl rfl rfl), Q_HB, Q_GB, Q_R6, Q_R5, fun h0_ => absurd ((hoff 13 (by kernel_rfl)).symm.trans h0_) (by decide)⟩
           refine steps_cons ?_ ?_
           ·rintro b a w' ⟨ha, Q_HB, Q_GB, Q_R6, Q_R5, Q_P5⟩ hb_ hon hoff
            refine ⟨_, rfl, fun K hK => ?_⟩
            have e100 : a.tmps[100]? = some (.pointer (some ⟨b5, ai * 16 + 9, none⟩)) := by rw [ha]; exact putSel_on (e := (12, 100, .pointer (some ⟨b5, ai * 16 + 9, none⟩))) 8 rfl rfl (hon 12 (by kernel_rfl)) rfl
            have e98 : a.tmps[98]? = some (.int .i64 (IntKind.i64.wrap (y2.words + z2.words))) := by rw [ha]; exact putSel_on (e := (10, 98, .int .i64 (IntKind.i64.wrap (y2.words + z2.words)))) 6 rfl rfl (hon 10 (by kernel_rfl)) rfl
            replace ha := am ha
            have HB := am Q_HB
            have GB := am Q_GB
            have R6 := am Q_R6
            have R5 := am (Q_R5 hb_)
            obtain ⟨⟨ov_, hov_⟩, hof_⟩ := nd_at R5.out ai 9 y2 HY.out (by omega)
            have hp_ := nd_put R5.out ai 9 (IntKind.i64.wrap (y2.words + z2.words)) y2 { y2 with words := (IntKind.i64.wrap (y2.words + z2.words)) } HY.out (by omega) (nd_words y2 _)
            have hpb_ := R_big R5.out
            refine skip_ (w1 := ?_) (by rfl) rfl ?_ ?_
            rotate_left
            ·go_simp
             rfl
            refine hK.out _ _ ⟨(by rw [ha.out]; exact putSel_none (v := undef) rfl), below_set HB.out hpb_, blk_grown GB.out hp_.2 (Kd.R_ne R5.out GB.out (by decide)), Kd.R_over' (v := (.slice (some ⟨b5, 0, none⟩) m c5)) R6.out (Kd.R_typed R5.out) (by decide) hp_.2, fun h0_ => absurd ((up_self b 13).symm.trans h0_) (by decide), fun _ => hp_.1⟩
           exact steps_nil
          ·rintro b a w' hall ⟨ha, Q_HB, Q_GB, Q_R6, Q_R5, Q_P5⟩
           clear GB HB R5 R6
           have hb2_ := hall 2 (by kernel_rfl)
           have hb3_ := hall 3 (by kernel_rfl)
           have hb4_ := hall 4 (by kernel_rfl)
           have hb7_ := hall 7 (by kernel_rfl)
           have hb8_ := hall 8 (by kernel_rfl)
           have hb9_ := hall 9 (by kernel_rfl)
           have hb10_ := hall 10 (by kernel_rfl)
           have hb11_ := hall 11 (by kernel_rfl)
           have hb12_ := hall 12 (by kernel_rfl)
           have hb13_ := hall 13 (by kernel_rfl)
           subst ha
           simp only [putSel, hb2_, hb3_, hb4_, hb7_, hb8_, hb9_, hb10_, hb11_, hb12_, hb13_, if_true, Act.put, List.setIfInBounds_toArray, List.set_cons_zero, List.set_cons_succ]
           have HB := am Q_HB
           clear Q_HB
           have GB := am Q_GB
           clear Q_GB
           have R6 := am Q_R6
           clear Q_R6
           clear Q_R5
           have P5 := am (Q_P5 hb13_)
           clear Q_P5
           clear hall hb2_ hb3_ hb4_ hb7_ hb8_ hb9_ hb10_ hb11_ hb12_ hb13_
           have R5 := P5
           clear P5
           obtain ⟨N3, hN3⟩ : ∃ N3, N3 = N2.set ai { y2 with words := IntKind.i64.wrap (y2.words + z2.words) } := ⟨_, rfl⟩
           rw [← hN3] at R5 HAD
           have hc3 : codes code N3 = codes code N2 := by rw [hN3]; exact codes_set code N2 ai y2 _ HY.out rfl
           rw [← hc3] at R6
           obtain ⟨z3, hz3⟩ : ∃ y, N3[k]? = some y := ⟨_, List.getElem?_eq_getElem (by rw [hN3, List.length_set, ← HM.out]; exact hkm)⟩
           have HZ := hid hz3
           clear hc3 hz3 hN3
           have hkn : (k : Int) < (m : Int) := by omega
           have hat_ := nd_at R5.out k (12 + i) z3 HZ.out (by omega)
           simp only [← Nat.add_assoc] at hat_
           obtain ⟨⟨ov, hov⟩, hof⟩ := hat_
           have hput_ := nd_put R5.out k (12 + i) (ai : Int) z3 (z3.next i (ai : Int)) HZ.out (by omega) (nd_next z3 i hi4 (ai : Int))
           simp only [← Nat.add_assoc] at hput_
           have hc4 := codes_set code N3 k z3 _ HZ.out (next_s z3 i (ai : Int))
           have HC4 := hid hc4
           have HP := hid hput_
           clear hput_ hc4
           go_wp2_with fail
           go_roundw
           case rel => exact ⟨i + 1, by go_num, by omega, by
            rw [HNX.out, HST2.out, HAD.out, setN_eq HZ.out]
            exact ⟨HP.out.1, by rw [HC4.out]; exact Kd.R_over' (v := (.slice (some ⟨b5, 0, none⟩) m c5)) R6.out (Kd.R_typed R5.out) (by decide) HP.out.2, blk_grown GB.out HP.out.2 (Kd.R_ne R5.out GB.out (by decide)), HG.out, below_set HB.out (R_big R5.out)⟩⟩
           case measure => simp [intOf]; omega
    ·obtain rfl : i = 4 := by omega
     have HNX := hid (AtN.next HA.out HIV.out hlt HR.out)
     go_wp2_with fail
     go_roundw
     case rel => exact ⟨k + 1, _, by go_num, HNX.out⟩
     case measure => simp [intOf]; omega
  ·have hd := AtN.done HA.out HIV.out (by omega)
   have h0 := HA.out.rn
   have hl0 : 0 < L.length := by
    rw [hd]
    exact fromN_pos mo can code _ _ _ (by simp)
   obtain ⟨b5, c5, hv5, _, _⟩ := R_form h0.r5 (by simpa using hl0)
   obtain ⟨n, hn⟩ : ∃ n, n = (L.map sNd).length := ⟨_, rfl⟩
   rw [← hn] at hv5
   subst hv5
   have hkn : ¬ (k : Int) < (n : Int) := by
    rw [hn, List.length_map]
    omega
   rw [hd] at h0
   have HF := hid (And.intro h0.r5 h0.bel)
   clear h0 hn hd
   go_wp2_with fail
   go_ret
   exact ⟨_, rfl, HF.out⟩
end Go.Proofs.YtkoejpimalbhbaaDoor.WyAll
