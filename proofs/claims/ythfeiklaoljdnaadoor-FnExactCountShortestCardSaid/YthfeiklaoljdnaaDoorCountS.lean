/- The program's CountShortest, walked. Conditions: a text of no more than 2^20 bytes. -/
import Derived.Test.YthfeiklaoljdnaaDoorAt
import Derived.Test.YthfeiklaoljdnaaDoorIntR
namespace Go.Proofs.YthfeiklaoljdnaaDoor.CountS
open Go.Lib (hid)
open Go.RowKit Go.Proofs.YthfeiklaoljdnaaDoorW.PrintWords Go.Proofs.YthfeiklaoljdnaaDoorW.PrintLast Go.Proofs.YthfeiklaoljdnaaDoor.QBo Go.Proofs.YthfeiklaoljdnaaDoor.Board Go.Proofs.YthfeiklaoljdnaaDoor.BaseR Go.Proofs.YthfeiklaoljdnaaDoor.ReachR Go.Proofs.YthfeiklaoljdnaaDoor.Search Go.Proofs.YthfeiklaoljdnaaDoor.On Go.Proofs.YthfeiklaoljdnaaDoor.To Go.Proofs.YthfeiklaoljdnaaDoor.Maps
open Go.Proofs.YthfeiklaoljdnaaDoor.Reach (St)
open Go.Proofs.YthfeiklaoljdnaaDoor.Reached (byt mvf)
set_option linter.unusedVariables false
set_option linter.unusedSimpArgs false

/-! ### Counting: one direction of one state -/
def stepC (f : Int → Int → Bool) (L : Bfs.Nodes St) (C : List Int) (k i : Nat) : List Int := match L[k]? with
 | none => C
 | some x => if canF f x.1 i = true then (match Maps.place (moved x.1 i) 0 (L.map (·.1)) with
  | none => C
  | some p => match L[p]? with
   | none => C
   | some y => if y.2.length = x.2.length + 1 then C.set p (IntKind.i64.wrap (C.getD p 0 + C.getD k 0)) else C) else C
def someC (f : Int → Int → Bool) (L : Bfs.Nodes St) (C : List Int) (k : Nat) : Nat → List Int
 | 0 => C
 | n + 1 => stepC f L (someC f L C k n) k n
def fromC (f : Int → Int → Bool) (L : Bfs.Nodes St) : Nat → List Int → Nat → List Int
 | 0, C, _ => C
 | r + 1, C, k => fromC f L r (someC f L C k 4) (k + 1)
def startC (n : Nat) : List Int := (List.replicate n 0).set 0 1
def allC (f : Int → Int → Bool) (L : Bfs.Nodes St) : List Int := fromC f L L.length (startC L.length) 0
def cntI (f : Int → Int → Bool) (L : Bfs.Nodes St) (j : Int) : Int := (allC f L).getD j.toNat 0
def goesB (s : ByteArray) (t u : St) : Bool := toOk s t u && decide (0 ≤ atI (found (fl s) t) u)
section
variable {f : Int → Int → Bool} {L : Bfs.Nodes St} {C : List Int} {k i p : Nat} {x y : St × List Nat}
theorem step_no (hx : L[k]? = some x) (hc : canF f x.1 i = false) : stepC f L C k i = C := by
 unfold stepC
 rw [hx]
 simp only
 rw [hc, if_neg (by decide)]
theorem step_far (hx : L[k]? = some x) (hc : canF f x.1 i = true) (hp : Maps.place (moved x.1 i) 0 (L.map (·.1)) = some p) (hy : L[p]? = some y) (hf : y.2.length ≠ x.2.length + 1) : stepC f L C k i = C := by
 unfold stepC
 rw [hx]
 simp only
 rw [if_pos hc, hp]
 simp only
 rw [hy]
 simp only
 rw [if_neg hf]
theorem step_add (hx : L[k]? = some x) (hc : canF f x.1 i = true) (hp : Maps.place (moved x.1 i) 0 (L.map (·.1)) = some p) (hy : L[p]? = some y) (hf : y.2.length = x.2.length + 1) {cp ck : Int} (h1 : C[p]? = some cp) (h2 : C[k]? = some ck) : stepC f L C k i = C.set p (IntKind.i64.wrap (cp + ck)) := by
 unfold stepC
 rw [hx]
 simp only
 rw [if_pos hc, hp]
 simp only
 rw [hy]
 simp only
 rw [if_pos hf, List.getD_eq_getElem?_getD, List.getD_eq_getElem?_getD, h1, h2]
 rfl
theorem step_len : (stepC f L C k i).length = C.length := by
 unfold stepC
 split
 ·rfl
 ·split
  ·split
   ·rfl
   ·split
    ·rfl
    ·split
     ·rw [List.length_set]
     ·rfl
  ·rfl
theorem some_len : ∀ n, (someC f L C k n).length = C.length
 | 0 => rfl
 | n + 1 => by rw [someC, step_len, some_len n]
end
theorem from_len (f : Int → Int → Bool) (L : Bfs.Nodes St) : ∀ (r : Nat) (C : List Int) (k : Nat), (fromC f L r C k).length = C.length
 | 0, _, _ => rfl
 | r + 1, C, k => by rw [fromC, from_len f L r, some_len]
theorem place_in {u : St} : ∀ {l : List St} {j : Nat}, u ∈ l → ∃ p, Maps.place u j l = some p
 | [], j, h => by simp at h
 | y :: l, j, h => by
  unfold Maps.place
  by_cases e : u = y
  ·exact ⟨j, by rw [if_pos e]⟩
  ·rw [if_neg e]
   exact place_in (by
    rcases List.mem_cons.1 h with h | h
    ·exact absurd h e
    ·exact h)
theorem goes {f : Int → Int → Bool} {t : St} {L : Bfs.Nodes St} (hd : Bfs.Done (mvf moved (canF f)) t L) {k i : Nat} {x : St × List Nat} (hx : L[k]? = some x) (hi : i < 4) (hc : canF f x.1 i = true) : ∃ p y, Maps.place (moved x.1 i) 0 (L.map (·.1)) = some p ∧ L[p]? = some y ∧ y.1 = moved x.1 i ∧ p < L.length := by
 obtain ⟨v, hv, _⟩ := hd.shut x.1 x.2 (List.mem_of_getElem? hx) i (moved x.1 i) hi (by unfold mvf; rw [if_pos hc])
 obtain ⟨p, hp⟩ := place_in (u := moved x.1 i) (l := L.map (·.1)) (j := 0) (List.mem_map.2 ⟨_, hv, rfl⟩)
 obtain ⟨_, h2⟩ := At.place_get hp
 rw [Nat.sub_zero, List.getElem?_map] at h2
 cases hy : L[p]? with
 | none => rw [hy] at h2; cases h2
 | some y =>
  rw [hy, Option.map_some] at h2
  injection h2 with h2
  exact ⟨p, y, hp, hy, h2, (List.getElem?_eq_some_iff.1 hy).1⟩
def rcs.T13 : Bool × List (List Nat × List Nat) := (true, [([], []), ([], []), ([], []), ([2], [2]), ([0, 1, 3], [0, 1, 3]), ([4], [4]), ([5], [5]), ([5], [5]), ([], []), ([8, 6, 4, 0, 1, 2, 3, 4, 5, 6, 8], [6, 8]), ([7, 9, 0, 1, 2, 3, 4, 5, 6, 7, 8, 9], [7])])
def rcs.B13 : List Nat := [0, 0, 0, 4, 15, 31, 63, 63, 0, 383, 1023]
theorem rcs.tab13 : rtab .any (opsOf Tryd.f19 13) = rcs.T13 := by kernel_rfl
theorem rcs.bits13 : waitsOk rcs.T13.2 rcs.B13 = true := by kernel_rfl
def rcs.T14 : Bool × List (List Nat × List Nat) := (true, [([], []), ([0], [0]), ([1], [1]), ([2, 1], [1, 2]), ([3, 1], [1, 3]), ([4, 1], [1, 4]), ([1], [1]), ([6, 1], [1, 6]), ([7, 1], [1, 7]), ([8, 1], [1, 8]), ([1], [1]), ([9, 10, 1], [1, 9, 10]), ([5, 11, 1], [1, 5, 11]), ([12, 1], [1, 12]), ([1], [1]), ([14, 1], [1, 14]), ([15, 1], [1, 15]), ([16, 1], [1, 16]), ([1], [1]), ([17, 18, 1], [1, 17, 18]), ([19, 1], [1, 19]), ([20, 1], [1, 20]), ([13, 21, 1], [1, 13, 21]), ([1, 22], [1, 22])])
def rcs.B14 : List Nat := [0, 1, 3, 7, 15, 31, 3, 67, 195, 451, 3, 1987, 4095, 8191, 3, 16387, 49155, 114691, 3, 507907, 1032195, 2080771, 4194303, 8388607]
theorem rcs.tab14 : rtab .any (opsOf Tryd.f19 14) = rcs.T14 := by kernel_rfl
theorem rcs.bits14 : waitsOk rcs.T14.2 rcs.B14 = true := by kernel_rfl
def rcs.T15 : Bool × List (List Nat × List Nat) := (true, [([], []), ([], []), ([1], [1]), ([2], [2]), ([3], [3]), ([], []), ([4, 5], [4, 5]), ([0, 6], [0, 6]), ([7], [7]), ([], []), ([], []), ([9, 10], [9, 10]), ([11], [11]), ([8, 12], [8, 12]), ([0, 6, 0, 1, 2, 3, 4, 5, 6, 7, 8, 9, 10, 11, 12, 13], [0, 6]), ([14, 13, 0, 1, 2, 3, 4, 5, 6, 7, 8, 9, 10, 11, 12, 13], [13, 14])])
def rcs.B15 : List Nat := [0, 0, 2, 6, 14, 0, 62, 127, 255, 0, 0, 1536, 3584, 8191, 16383, 32767]
theorem rcs.tab15 : rtab .any (opsOf Tryd.f19 15) = rcs.T15 := by kernel_rfl
theorem rcs.bits15 : waitsOk rcs.T15.2 rcs.B15 = true := by kernel_rfl
set_option maxHeartbeats 16000000 in
set_option maxRecDepth 100000 in
theorem count_walk (s : ByteArray) (hs : s.size ≤ 1048576) (t u0 : St) (w : World) : Calls Tryd.prog 19 #[.string s, .agg (st8 t), .agg (st8 u0)] w fun e w' =>
  e = .returned (.tuple #[.int .i64 (if goesB s t u0 = true then cntI (fl s) (found (fl s) t) (atI (found (fl s) t) u0) else 0), .bool (goesB s t u0)]) ∧ Below w.heap.size w w' := by
 unfold goesB
 cases ha : toOk s t u0 with
 | false =>
  have HC := hid (fun W => to_no s hs t u0 ha W)
  rw [Bool.false_and, if_neg (by decide)]
  clear ha
  go_enter Tryd.func19, Tryd.ntmps19
  go_wp2_with fail
  refine (HC.out _).mono ?_
  rintro e' w1 ⟨rfl, hb⟩
  have HB := hid (below_then (((Below.refl _ w).alloc (Nat.le_refl _) (.cells (st8 t) 30)).alloc (by simp) (.cells (st8 u0) 30)) (by simp; omega) hb)
  clear hb
  go_wp2_with fail
  go_ret2
  exact ⟨rfl, HB.out⟩
 | true =>
  obtain ⟨hi, hg⟩ := ask_iff.1 (by unfold toOk at ha; rw [Bool.and_eq_true] at ha; exact ha.1)
  have HC := hid (fun W => to_yes s hs t u0 ha W)
  have hd := found_done (box hi) hg
  have hlen := found_length (box hi) hg
  have hgd := fun x hx => found_gd (box hi) hg (x := x) hx
  have HROLL := hid (fun sx hx i h4 A0 c0 W hr hc => roll_calls s hi sx hx i h4 A0 c0 W hr hc)
  obtain ⟨g, h1, h2⟩ := board_at s hs (s.size + 3) (by omega)
  obtain rfl := h2 (isB_iff.2 hi)
  rw [isB_iff.2 hi] at h1
  have HCB := hid (fun W => impl_board.calls _ _ _ _ W h1)
  have HP := hid (grid_pos s hi)
  rw [Bool.true_and]
  clear ha h1 h2 hi hg
  obtain ⟨fl0, hfl⟩ : ∃ fl0, fl0 = fl s := ⟨_, rfl⟩
  have hfl2 : floorB s.data.toList = fl0 := hfl.symm
  rw [hfl2] at hd hlen hgd
  rw [← hfl] at HC HROLL ⊢
  obtain ⟨gr, hgr⟩ : ∃ gr, gr = gridOf s := ⟨_, rfl⟩
  rw [← hgr] at HCB HP HROLL
  obtain ⟨L, hL⟩ : ∃ L, L = found fl0 t := ⟨_, rfl⟩
  rw [← hL] at hd hlen hgd HC ⊢
  clear hL hgr hfl hfl2
  by_cases hlt : 0 ≤ atI L u0
  ·obtain ⟨j, wd0, hj, hx⟩ := At.at_some hlt
   rw [if_pos (decide_eq_true hlt), decide_eq_true hlt]
   rw [hj] at HC ⊢
   unfold cntI
   rw [Int.toNat_natCast]
   obtain ⟨res, hres⟩ : ∃ res, res = allC fl0 L := ⟨_, rfl⟩
   rw [← hres]
   have hrl : res.length = L.length := by rw [hres, allC, from_len, startC, List.length_set, List.length_replicate]
   obtain ⟨n, hn⟩ : ∃ n, n = L.length := ⟨_, rfl⟩
   have hjn : j < L.length := (List.getElem?_eq_some_iff.1 hx).1
   obtain ⟨ans, hans⟩ : ∃ ans, res[j]? = some ans := ⟨_, List.getElem?_eq_getElem (by rw [hrl]; exact hjn)⟩
   rw [List.getD_eq_getElem?_getD, hans, Option.getD_some]
   have HANS := hid hans
   have HRES := hid hres
   have HJ := hid (And.intro hjn hn)
   have HN1 := hid (show n ≤ 1000 ∧ 0 < n by omega)
   have HD := hid hd
   have HGD := hid hgd
   clear hlt hj hx hrl hans hres hn hjn hd hlen hgd
   go_enter Tryd.func19, Tryd.ntmps19
   go_wp2_with fail
   refine (HC.out _).mono ?_
   rintro e' w1 ⟨Br, M, v0, v1, v2, v3, rfl, hrs⟩
   have HRS1 := hid (RS_lower hrs (((Below.refl _ w).alloc (Nat.le_refl _) (.cells (st8 t) 30)).alloc (by simp) (.cells (st8 u0) 30)))
   have hj0 : (0 : Int) ≤ (j : Int) := by omega
   have hj0' : ¬ (j : Int) < 0 := by omega
   clear hrs HC
   go_wp2_with fail
   refine (HCB.out _).mono ?_
   rintro e' w5 ⟨vg, rfl, hr, hb⟩
   obtain ⟨gb, gc, hv, _, _⟩ := R_form hr HP.out
   subst hv
   have HGR := hid (And.intro (Kd.R_reads' hr).2.2 (Kd.R_reads' hr).2.1)
   have hrs := RS.below HRS1.out hb
   obtain ⟨b0, c0, hv0, _, _⟩ := R_form hrs.r0 (by rw [List.length_map]; have := HJ.out; omega)
   obtain ⟨b3, c3, hv3, _, _⟩ := R_form hrs.r3 (by rw [List.length_map]; have := HJ.out; omega)
   rw [List.length_map, ← HJ.out.2] at hv0 hv3
   subst hv0 hv3
   have HRS := hid hrs
   have HB := hid (Below.refl w5.heap.size w5)
   have f0_ : w5.cell? ⟨Br, 0, none⟩ = some (.slice (some ⟨b0, 0, none⟩) n c0) := blk_cell hrs.blk 0
   clear hr hb hrs HRS1 HP HCB
   go_upto_region 6 with (first | ((with_reducible refine gate_dst (N := 43) rfl ?_); refine Kd.R_make (Kd.int .i64) (w0 := w5) w5.heap.size 3 rfl (N := 43) rfl 37 (.tmp 42) (.tmp 42) rfl (n : Int) rfl rfl Tryd.underlying37 (.int .i64 0) 8 IntR.infoI rfl (by decide) (by decide) 0 (ok := fun _ => True) (okp := fun _ => True) rfl (fun _ _ => trivial) trivial (by omega) (by have h_ := HN1.out; omega) HB.out HB.out.size ?_; intro v13 w6 ho hb hg hat; rw [Int.toNat_natCast] at ho; have RC := hid ho; clear HB; have HB := hid hb; clear ho hb hg hat))
   obtain ⟨b13, c13, hv13, hb13, _⟩ := R_form RC.out (by rw [List.length_replicate]; exact HN1.out.2)
   rw [List.length_replicate] at hv13
   subst hv13
   have hc0_ := int_cell RC.out 0 0 (by rw [List.getElem?_replicate, if_pos HN1.out.2])
   have hf0_ := IntR.int_free RC.out 0 (by rw [List.length_replicate]; exact HN1.out.2)
   have hn0_ : (0 : Int) < (n : Int) := by have := HN1.out; omega
   clear f0_
   go_upto_region 7 with fail
   have n_RC := hid (show Kd.R (Kd.int .i64) 3 (w6.setCell ⟨b13, 0, none⟩ (.int .i64 1)) w5.heap.size (fun _ => True) (.slice (some ⟨b13, 0, none⟩) n c13) (startC n) from (Kd.R_putg (enc := fun x : Int => Value.int .i64 x) RC.out (0 : Int) 1).1)
   have n_HB := hid (show Below w5.heap.size w5 (w6.setCell ⟨b13, 0, none⟩ (.int .i64 1)) from below_set HB.out hb13)
   have HB13 := hid hb13
   clear RC HB hc0_ hf0_ hn0_ hb13
   have RC := n_RC
   have HB := n_HB
   clear n_RC n_HB
   generalize World.setCell _ _ _ = w7 at RC HB ⊢
   have f0_ : w7.cell? ⟨Br, 0, none⟩ = some (.slice (some ⟨b0, 0, none⟩) n c0) := blk_cell (RS.below HRS.out HB.out).blk 0
   go_wp2_with fail
   clear f0_
   go_loopw [14, 15, 51] (fun v14 v15 v51 wr => ∃ (k : Nat) (cs : List Int), v51 = .int .i64 (k : Int) ∧ k ≤ n ∧ cs.length = n ∧ fromC fl0 L (n - k) cs k = res ∧ Kd.R (Kd.int .i64) 3 wr w5.heap.size (fun _ => True) (.slice (some ⟨b13, 0, none⟩) n c13) cs ∧ Below w5.heap.size w5 wr) (fun _ _ v51 _ => n - (intOf v51).toNat)
   case atStart => exact ⟨0, startC n, rfl, Nat.zero_le _, by rw [startC, List.length_set, List.length_replicate], by rw [HRES.out, allC, ← HJ.out.2]; rfl, RC.out, HB.out⟩
   case round =>
    clear RC HB
    obtain ⟨kk, cs0, rfl, hk, hcl, hfr, hR, hB⟩ := hrel
    have HB := hid hB
    have RC := hid hR
    have HFR := hid (And.intro hfr hcl)
    clear hB hR hfr hcl
    by_cases hlt : kk < n
    ·obtain ⟨⟨sx, wd⟩, hx⟩ : ∃ x, L[kk]? = some x := ⟨_, List.getElem?_eq_getElem (by rw [← HJ.out.2]; exact hlt)⟩
     have HX := hid hx
     have HLT := hid hlt
     have HKN := hid (show (kk : Int) < (n : Int) by omega)
     obtain ⟨m0, m1, m2, m3, m4, m5, m6, m7⟩ := st_cells (RS.below HRS.out HB.out).r0 kk sx (by rw [List.getElem?_map, hx]; rfl)
     have hk0 : (0 : Int) ≤ (kk : Int) := by omega
     have hk1 : (kk : Int) < (n : Int) := by omega
     clear hx hlt
     go_upto_region 10 with (first | ((with_reducible refine gate_dst (N := 15) rfl ?_); refine box_event ?hg (N := 15) ?hd (cs := #[.int .i64 0, .int .i64 0, .int .i64 0, .int .i64 0, .int .i64 0, .int .i64 0, .int .i64 0, .int .i64 0]) (t := 30) ?hr ?_; (case hd => rfl); (case hg => rfl); (case hr => first | (go_simp; done) | (go_simp; rfl)); intro ob hg w8 hbox hb; have n_RC := hid (Kd.R_below (by (with_reducible repeat (first | apply Kd.R_alloc | apply Kd.R_drewN | apply Kd.R_drew)); exact RC.out) hb); have HGB := hid (by rw [hg]; exact (below_size (by repeat (first | (with_reducible first | exact HB.out | apply below_alloc | apply pw_below_drewN | apply below_drew1) | exact HB.out))) : w5.heap.size ≤ ob); have n_HB := hid (below_step (by repeat (first | (with_reducible first | exact HB.out | apply below_alloc | apply pw_below_drewN | apply below_drew1) | exact HB.out)) hb); have BX := hid (hbox); clear HB RC; have HB := n_HB; have RC := n_RC; clear n_HB n_RC hg hb hbox; have z0_ : w8.cell? ⟨ob, 0, none⟩ = some (.int .i64 0) := blk_cell BX.out 0; have zf0_ := blk_frozen BX.out 0; have z1_ : w8.cell? ⟨ob, 1, none⟩ = some (.int .i64 0) := blk_cell BX.out 1; have zf1_ := blk_frozen BX.out 1; have z2_ : w8.cell? ⟨ob, 2, none⟩ = some (.int .i64 0) := blk_cell BX.out 2; have zf2_ := blk_frozen BX.out 2; have z3_ : w8.cell? ⟨ob, 3, none⟩ = some (.int .i64 0) := blk_cell BX.out 3; have zf3_ := blk_frozen BX.out 3; have z4_ : w8.cell? ⟨ob, 4, none⟩ = some (.int .i64 0) := blk_cell BX.out 4; have zf4_ := blk_frozen BX.out 4; have z5_ : w8.cell? ⟨ob, 5, none⟩ = some (.int .i64 0) := blk_cell BX.out 5; have zf5_ := blk_frozen BX.out 5; have z6_ : w8.cell? ⟨ob, 6, none⟩ = some (.int .i64 0) := blk_cell BX.out 6; have zf6_ := blk_frozen BX.out 6; have z7_ : w8.cell? ⟨ob, 7, none⟩ = some (.int .i64 0) := blk_cell BX.out 7; have zf7_ := blk_frozen BX.out 7))
     have n_BS := hid (blk_put (cs := #[.int .i64 sx.x, .int .i64 sx.y, .int .i64 sx.d.t, .int .i64 sx.d.n, .int .i64 sx.d.e, .int .i64 sx.d.s, .int .i64 sx.d.w, .int .i64 0]) (cs' := #[.int .i64 sx.x, .int .i64 sx.y, .int .i64 sx.d.t, .int .i64 sx.d.n, .int .i64 sx.d.e, .int .i64 sx.d.s, .int .i64 sx.d.w, .int .i64 sx.d.b]) (blk_put (cs := #[.int .i64 sx.x, .int .i64 sx.y, .int .i64 sx.d.t, .int .i64 sx.d.n, .int .i64 sx.d.e, .int .i64 sx.d.s, .int .i64 0, .int .i64 0]) (cs' := #[.int .i64 sx.x, .int .i64 sx.y, .int .i64 sx.d.t, .int .i64 sx.d.n, .int .i64 sx.d.e, .int .i64 sx.d.s, .int .i64 sx.d.w, .int .i64 0]) (blk_put (cs := #[.int .i64 sx.x, .int .i64 sx.y, .int .i64 sx.d.t, .int .i64 sx.d.n, .int .i64 sx.d.e, .int .i64 0, .int .i64 0, .int .i64 0]) (cs' := #[.int .i64 sx.x, .int .i64 sx.y, .int .i64 sx.d.t, .int .i64 sx.d.n, .int .i64 sx.d.e, .int .i64 sx.d.s, .int .i64 0, .int .i64 0]) (blk_put (cs := #[.int .i64 sx.x, .int .i64 sx.y, .int .i64 sx.d.t, .int .i64 sx.d.n, .int .i64 0, .int .i64 0, .int .i64 0, .int .i64 0]) (cs' := #[.int .i64 sx.x, .int .i64 sx.y, .int .i64 sx.d.t, .int .i64 sx.d.n, .int .i64 sx.d.e, .int .i64 0, .int .i64 0, .int .i64 0]) (blk_put (cs := #[.int .i64 sx.x, .int .i64 sx.y, .int .i64 sx.d.t, .int .i64 0, .int .i64 0, .int .i64 0, .int .i64 0, .int .i64 0]) (cs' := #[.int .i64 sx.x, .int .i64 sx.y, .int .i64 sx.d.t, .int .i64 sx.d.n, .int .i64 0, .int .i64 0, .int .i64 0, .int .i64 0]) (blk_put (cs := #[.int .i64 sx.x, .int .i64 sx.y, .int .i64 0, .int .i64 0, .int .i64 0, .int .i64 0, .int .i64 0, .int .i64 0]) (cs' := #[.int .i64 sx.x, .int .i64 sx.y, .int .i64 sx.d.t, .int .i64 0, .int .i64 0, .int .i64 0, .int .i64 0, .int .i64 0]) (blk_put (cs := #[.int .i64 sx.x, .int .i64 0, .int .i64 0, .int .i64 0, .int .i64 0, .int .i64 0, .int .i64 0, .int .i64 0]) (cs' := #[.int .i64 sx.x, .int .i64 sx.y, .int .i64 0, .int .i64 0, .int .i64 0, .int .i64 0, .int .i64 0, .int .i64 0]) (blk_put (cs := #[.int .i64 0, .int .i64 0, .int .i64 0, .int .i64 0, .int .i64 0, .int .i64 0, .int .i64 0, .int .i64 0]) (cs' := #[.int .i64 sx.x, .int .i64 0, .int .i64 0, .int .i64 0, .int .i64 0, .int .i64 0, .int .i64 0, .int .i64 0]) BX.out 0 _ rfl) 1 _ rfl) 2 _ rfl) 3 _ rfl) 4 _ rfl) 5 _ rfl) 6 _ rfl) 7 _ rfl)
     have n_RC := hid (Kd.R_mono (Kd.R_far (p := ⟨ob, 7, none⟩) (Kd.R_far (p := ⟨ob, 6, none⟩) (Kd.R_far (p := ⟨ob, 5, none⟩) (Kd.R_far (p := ⟨ob, 4, none⟩) (Kd.R_far (p := ⟨ob, 3, none⟩) (Kd.R_far (p := ⟨ob, 2, none⟩) (Kd.R_far (p := ⟨ob, 1, none⟩) (Kd.R_far (p := ⟨ob, 0, none⟩) (Kd.R_types RC.out BX.out (by decide)) (fun _ hk => hk.2) (.int .i64 sx.x)) (fun _ hk => hk.2) (.int .i64 sx.y)) (fun _ hk => hk.2) (.int .i64 sx.d.t)) (fun _ hk => hk.2) (.int .i64 sx.d.n)) (fun _ hk => hk.2) (.int .i64 sx.d.e)) (fun _ hk => hk.2) (.int .i64 sx.d.s)) (fun _ hk => hk.2) (.int .i64 sx.d.w)) (fun _ hk => hk.2) (.int .i64 sx.d.b)) (fun _ _ => trivial))
     have n_HB := hid (Below.setCell (p := ⟨ob, 7, none⟩) (Below.setCell (p := ⟨ob, 6, none⟩) (Below.setCell (p := ⟨ob, 5, none⟩) (Below.setCell (p := ⟨ob, 4, none⟩) (Below.setCell (p := ⟨ob, 3, none⟩) (Below.setCell (p := ⟨ob, 2, none⟩) (Below.setCell (p := ⟨ob, 1, none⟩) (Below.setCell (p := ⟨ob, 0, none⟩) HB.out HGB.out (.int .i64 sx.x)) HGB.out (.int .i64 sx.y)) HGB.out (.int .i64 sx.d.t)) HGB.out (.int .i64 sx.d.n)) HGB.out (.int .i64 sx.d.e)) HGB.out (.int .i64 sx.d.s)) HGB.out (.int .i64 sx.d.w)) HGB.out (.int .i64 sx.d.b))
     clear z0_ zf0_ z1_ zf1_ z2_ zf2_ z3_ zf3_ z4_ zf4_ z5_ zf5_ z6_ zf6_ z7_ zf7_ m0 m1 m2 m3 m4 m5 m6 m7 BX HB RC
     have BS := n_BS
     have HB := n_HB
     have RC := n_RC
     clear n_BS n_HB n_RC
     generalize World.setCell _ _ _ = w9 at BS RC HB ⊢
     go_wp2_with fail
     go_loopw [16, 17, 18, 56] (fun v16 v17 v18 v56 wi => ∃ ii : Nat, v56 = .int .i64 (ii : Int) ∧ ii ≤ 4 ∧ Kd.R (Kd.int .i64) 3 wi w5.heap.size (fun _ => True) (.slice (some ⟨b13, 0, none⟩) n c13) (someC fl0 L cs0 kk ii) ∧ wi.heap[ob]? = some (.cells (st8 sx) 30 (0, 0)) ∧ Below w5.heap.size w5 wi) (fun _ _ _ v56 _ => 4 - (intOf v56).toNat)
     case atStart => exact ⟨0, rfl, by omega, RC.out, BS.out, HB.out⟩
     case round =>
      clear RC BS HB
      obtain ⟨ii, rfl, hi, hR, hS, hB⟩ := hrel
      by_cases h4 : ii < 4
      ·obtain ⟨u, hu⟩ : ∃ u, u = moved sx ii := ⟨_, rfl⟩
       obtain ⟨cn, hcn⟩ : ∃ cn, cn = canF fl0 sx ii := ⟨_, rfl⟩
       obtain ⟨cs, hcs⟩ : ∃ cs, cs = someC fl0 L cs0 kk ii := ⟨_, rfl⟩
       have HNX := hid (show someC fl0 L cs0 kk (ii + 1) = stepC fl0 L cs kk ii by rw [someC, hcs])
       have HCL := hid (show cs.length = n by rw [hcs, some_len]; exact HFR.out.2)
       rw [← hcs] at hR
       have HMV := hid (show ∀ W, Below w5.heap.size w5 W → Calls Tryd.prog 38 #[.slice (some ⟨gb, 0, none⟩) gr.length gc, .agg (st8 sx), .int .u8 (byt ii)] W fun e w' => e = .returned (.tuple #[.agg (st8 u), .bool cn]) ∧ Below W.heap.size W w' from fun W hb => by
        rw [hu, hcn]
        exact HROLL.out sx (HGD.out _ (List.mem_of_getElem? HX.out)) ii h4 _ _ W (Kd.C_below HGR.out.1 hb) HGR.out.2)
       have HU := hid (And.intro hu hcn)
       have HI4 := hid h4
       have HB := hid hB
       have RC := hid hR
       have BS := hid hS
       have hii : (ii : Int) < 4 := by omega
       clear hu hcn hcs hB hR hS h4
       go_upto_region 13 with fail
       refine start_ (n := 11) (S := fun w' => True) (ds := []) #[ff, ff, ff, ff, ff, ff, ff, ff, ff, ff, ff] (by kernel_rfl) rfl rfl trivial (fun hHeld => ?_)
       refine with_tabW rcs.tab13 rcs.bits13 (fun HT_ HW_ => ?_)
       have n_HB := hid (below_drew HB.out)
       have n_RC := hid (Kd.R_drew RC.out)
       have n_BS := hid (blk_drew BS.out)
       clear HB RC BS
       have HB := n_HB
       have RC := n_RC
       have BS := n_BS
       clear n_HB n_RC n_BS
       generalize World.drew _ = w13 at HB RC BS hHeld ⊢
       refine pure_ (i := 0) (N := some 60) (v := ?_) (a' := ?_) #[tt, ff, ff, ff, ff, ff, ff, ff, ff, ff, ff] rfl rfl (any_of HT_.out (by kernel_rfl)) (fun _ _ _ h => h) (Or.inl ⟨by rfl, ?_⟩) ?_ ?_
       rotate_left
       ·intro w'
        go_simp
        with_reducible rfl
       rotate_left
       ·simp only [Act.put, List.setIfInBounds_toArray, List.set_cons_zero, List.set_cons_succ, i64_w, i32_w]
        rfl
       refine pure_ (i := 2) (N := some 62) (v := ?_) (a' := ?_) #[tt, ff, tt, ff, ff, ff, ff, ff, ff, ff, ff] rfl rfl (any_of HT_.out (by kernel_rfl)) (fun _ _ _ h => h) (Or.inl ⟨by rfl, ?_⟩) ?_ ?_
       rotate_left
       ·intro w'
        go_simp
        with_reducible rfl
       rotate_left
       ·simp only [Act.put, List.setIfInBounds_toArray, List.set_cons_zero, List.set_cons_succ, i64_w, i32_w]
        rfl
       refine inv_at [1, 3, 4, 5, 6, 7, 8, 9, 10] (fun a0_ b a w' => ∃ (go_ : Nat) (m8_ : Value), a = putSel a0_ b [(1, 61, .agg #[.int .i64 sx.x, .int .i64 sx.y, .int .i64 sx.d.t, .int .i64 sx.d.n, .int .i64 sx.d.e, .int .i64 sx.d.s, .int .i64 sx.d.w, .int .i64 sx.d.b]), (3, 63, .int .u8 (byt ii)), (4, 64, .tuple #[.agg #[.int .i64 u.x, .int .i64 u.y, .int .i64 u.d.t, .int .i64 u.d.n, .int .i64 u.d.e, .int .i64 u.d.s, .int .i64 u.d.w, .int .i64 u.d.b], .bool cn]), (5, 59, .tuple #[.agg #[.int .i64 u.x, .int .i64 u.y, .int .i64 u.d.t, .int .i64 u.d.n, .int .i64 u.d.e, .int .i64 u.d.s, .int .i64 u.d.w, .int .i64 u.d.b], .bool cn]), (6, 65, .agg #[.int .i64 u.x, .int .i64 u.y, .int .i64 u.d.t, .int .i64 u.d.n, .int .i64 u.d.e, .int .i64 u.d.s, .int .i64 u.d.w, .int .i64 u.d.b]), (7, 66, .bool cn), (8, 17, m8_), (10, 18, .bool cn)] ∧ (Below w5.heap.size w5 w') ∧ (Kd.R (Kd.int .i64) 3 w' w5.heap.size (fun _ => True) (.slice (some ⟨b13, 0, none⟩) n c13) cs) ∧ (w'.heap[ob]? = some (.cells (st8 sx) 30 (0, 0))) ∧ (b 8 = true → b 9 = false → w'.heap[go_]? = some (.cells #[.int .i64 0, .int .i64 0, .int .i64 0, .int .i64 0, .int .i64 0, .int .i64 0, .int .i64 0, .int .i64 0] 30 (0, 0)) ∧ w5.heap.size ≤ go_ ∧ ob < go_) ∧ (b 9 = true → w'.heap[go_]? = some (.cells (st8 u) 30 (0, 0)) ∧ w5.heap.size ≤ go_ ∧ ob < go_) ∧ (b 8 = true → (m8_ : Value) = .pointer (some ⟨go_, 0, none⟩))) HT_.out HW_.out (by kernel_rfl) (by kernel_rfl) ?_ ?_ ?_
       ·exact ⟨0, .bool false, by simp only [putSel, Bool.false_eq_true, if_false], HB.out, RC.out, BS.out, fun h_ => absurd h_ (by decide), fun h_ => absurd h_ (by decide), fun h_ => absurd h_ (by decide)⟩
       ·skip
        clear BS HB RC
        refine steps_cons ?_ ?_
        ·rintro b a w' ⟨go_, m8_, ha, Q_HB, Q_RC, Q_BS, Q_Z0, Q_BO, Q_X8_⟩ hb_ hon hoff
         refine ⟨_, rfl, fun K hK => ?_⟩
         have e15 : a.tmps[15]? = some (.pointer (some ⟨ob, 0, none⟩)) := by rw [ha]; exact (putSel_off rfl).trans rfl
         replace ha := Aside0.mk ha
         have HB := Aside0.mk Q_HB
         have RC := Aside0.mk Q_RC
         have BS := Aside0.mk Q_BS
         have s0 : w'.cell? ⟨ob, 0, none⟩ = some (.int .i64 sx.x) := blk_cell BS.out 0
         have s1 : w'.cell? ⟨ob, 1, none⟩ = some (.int .i64 sx.y) := blk_cell BS.out 1
         have s2 : w'.cell? ⟨ob, 2, none⟩ = some (.int .i64 sx.d.t) := blk_cell BS.out 2
         have s3 : w'.cell? ⟨ob, 3, none⟩ = some (.int .i64 sx.d.n) := blk_cell BS.out 3
         have s4 : w'.cell? ⟨ob, 4, none⟩ = some (.int .i64 sx.d.e) := blk_cell BS.out 4
         have s5 : w'.cell? ⟨ob, 5, none⟩ = some (.int .i64 sx.d.s) := blk_cell BS.out 5
         have s6 : w'.cell? ⟨ob, 6, none⟩ = some (.int .i64 sx.d.w) := blk_cell BS.out 6
         have s7 : w'.cell? ⟨ob, 7, none⟩ = some (.int .i64 sx.d.b) := blk_cell BS.out 7
         refine value_ (w1 := w') (v := .agg #[.int .i64 sx.x, .int .i64 sx.y, .int .i64 sx.d.t, .int .i64 sx.d.n, .int .i64 sx.d.e, .int .i64 sx.d.s, .int .i64 sx.d.w, .int .i64 sx.d.b]) (by rfl) rfl ?_ ?_
         ·go_simp
          (try simp only [i64_w])
          try rfl
         refine hK.out _ _ ⟨go_, m8_, (by rw [ha.out]; exact putSel_upk 0 hb_ rfl rfl rfl), Q_HB, Q_RC, Q_BS, Q_Z0, fun h0_ => absurd ((hoff 9 (by kernel_rfl)).symm.trans h0_) (by decide), Q_X8_⟩
        refine steps_cons ?_ ?_
        ·rintro b a w' ⟨go_, m8_, ha, Q_HB, Q_RC, Q_BS, Q_Z0, Q_BO, Q_X8_⟩ hb_ hon hoff
         refine ⟨_, rfl, fun K hK => ?_⟩
         have e62 : a.tmps[62]? = some (.int .i64 (ii : Int)) := by rw [ha]; exact (putSel_off rfl).trans rfl
         replace ha := Aside0.mk ha
         have HB := Aside0.mk Q_HB
         have RC := Aside0.mk Q_RC
         have BS := Aside0.mk Q_BS
         have hix_ := Reached.index_dir ii HI4.out
         refine value_ (w1 := w') (v := .int .u8 (byt ii)) (by rfl) rfl ?_ ?_
         ·go_simp
          (try simp only [i64_w])
          try rfl
         refine hK.out _ _ ⟨go_, m8_, (by rw [ha.out]; exact putSel_upk 1 hb_ rfl rfl rfl), Q_HB, Q_RC, Q_BS, Q_Z0, fun h0_ => absurd ((hoff 9 (by kernel_rfl)).symm.trans h0_) (by decide), Q_X8_⟩
        refine steps_cons ?_ ?_
        ·rintro b a w' ⟨go_, m8_, ha, Q_HB, Q_RC, Q_BS, Q_Z0, Q_BO, Q_X8_⟩ hb_ hon hoff
         refine ⟨_, rfl, fun K hK => ?_⟩
         have e60 : a.tmps[60]? = some (.slice (some ⟨gb, 0, none⟩) gr.length gc) := by rw [ha]; exact (putSel_off rfl).trans rfl
         have e61 : a.tmps[61]? = some (.agg #[.int .i64 sx.x, .int .i64 sx.y, .int .i64 sx.d.t, .int .i64 sx.d.n, .int .i64 sx.d.e, .int .i64 sx.d.s, .int .i64 sx.d.w, .int .i64 sx.d.b]) := by rw [ha]; exact putSel_on (e := (1, 61, .agg #[.int .i64 sx.x, .int .i64 sx.y, .int .i64 sx.d.t, .int .i64 sx.d.n, .int .i64 sx.d.e, .int .i64 sx.d.s, .int .i64 sx.d.w, .int .i64 sx.d.b])) 0 rfl rfl (hon 1 (by kernel_rfl)) rfl
         have e63 : a.tmps[63]? = some (.int .u8 (byt ii)) := by rw [ha]; exact putSel_on (e := (3, 63, .int .u8 (byt ii))) 1 rfl rfl (hon 3 (by kernel_rfl)) rfl
         replace ha := Aside0.mk ha
         have HB := Aside0.mk Q_HB
         have RC := Aside0.mk Q_RC
         have BS := Aside0.mk Q_BS
         refine call_ 38 #[.slice (some ⟨gb, 0, none⟩) gr.length gc, .agg #[.int .i64 sx.x, .int .i64 sx.y, .int .i64 sx.d.t, .int .i64 sx.d.n, .int .i64 sx.d.e, .int .i64 sx.d.s, .int .i64 sx.d.w, .int .i64 sx.d.b], .int .u8 (byt ii)] (by rfl) rfl ?_ ?_
         ·go_simp
          (try rfl)
         with_reducible refine (HMV.out w' HB.out).mono ?_
         rintro e' w1 ⟨rfl, hb⟩
         refine ⟨_, rfl, ?_⟩
         refine hK.out _ _ ⟨go_, m8_, (by rw [ha.out]; exact putSel_upk 2 hb_ rfl rfl rfl), below_then HB.out HB.out.size hb, Kd.R_below RC.out hb, blk_below BS.out hb, fun h0_ h1_ => ⟨blk_below (Q_Z0 h0_ h1_).1 hb, (Q_Z0 h0_ h1_).2⟩, fun h0_ => absurd ((hoff 9 (by kernel_rfl)).symm.trans h0_) (by decide), Q_X8_⟩
        refine steps_cons ?_ ?_
        ·rintro b a w' ⟨go_, m8_, ha, Q_HB, Q_RC, Q_BS, Q_Z0, Q_BO, Q_X8_⟩ hb_ hon hoff
         refine ⟨_, rfl, fun K hK => ?_⟩
         have e64 : a.tmps[64]? = some (.tuple #[.agg #[.int .i64 u.x, .int .i64 u.y, .int .i64 u.d.t, .int .i64 u.d.n, .int .i64 u.d.e, .int .i64 u.d.s, .int .i64 u.d.w, .int .i64 u.d.b], .bool cn]) := by rw [ha]; exact putSel_on (e := (4, 64, .tuple #[.agg #[.int .i64 u.x, .int .i64 u.y, .int .i64 u.d.t, .int .i64 u.d.n, .int .i64 u.d.e, .int .i64 u.d.s, .int .i64 u.d.w, .int .i64 u.d.b], .bool cn])) 2 rfl rfl (hon 4 (by kernel_rfl)) rfl
         replace ha := Aside0.mk ha
         have HB := Aside0.mk Q_HB
         have RC := Aside0.mk Q_RC
         have BS := Aside0.mk Q_BS
         refine value_ (w1 := w') (v := .tuple #[.agg #[.int .i64 u.x, .int .i64 u.y, .int .i64 u.d.t, .int .i64 u.d.n, .int .i64 u.d.e, .int .i64 u.d.s, .int .i64 u.d.w, .int .i64 u.d.b], .bool cn]) (by rfl) rfl ?_ ?_
         ·go_simp
          (try simp only [i64_w])
          try rfl
         refine hK.out _ _ ⟨go_, m8_, (by rw [ha.out]; exact putSel_upk 3 hb_ rfl rfl rfl), Q_HB, Q_RC, Q_BS, Q_Z0, fun h0_ => absurd ((hoff 9 (by kernel_rfl)).symm.trans h0_) (by decide), Q_X8_⟩
        refine steps_cons ?_ ?_
        ·rintro b a w' ⟨go_, m8_, ha, Q_HB, Q_RC, Q_BS, Q_Z0, Q_BO, Q_X8_⟩ hb_ hon hoff
         refine ⟨_, rfl, fun K hK => ?_⟩
         have e59 : a.tmps[59]? = some (.tuple #[.agg #[.int .i64 u.x, .int .i64 u.y, .int .i64 u.d.t, .int .i64 u.d.n, .int .i64 u.d.e, .int .i64 u.d.s, .int .i64 u.d.w, .int .i64 u.d.b], .bool cn]) := by rw [ha]; exact putSel_on (e := (5, 59, .tuple #[.agg #[.int .i64 u.x, .int .i64 u.y, .int .i64 u.d.t, .int .i64 u.d.n, .int .i64 u.d.e, .int .i64 u.d.s, .int .i64 u.d.w, .int .i64 u.d.b], .bool cn])) 3 rfl rfl (hon 5 (by kernel_rfl)) rfl
         replace ha := Aside0.mk ha
         have HB := Aside0.mk Q_HB
         have RC := Aside0.mk Q_RC
         have BS := Aside0.mk Q_BS
         refine value_ (w1 := w') (v := .agg #[.int .i64 u.x, .int .i64 u.y, .int .i64 u.d.t, .int .i64 u.d.n, .int .i64 u.d.e, .int .i64 u.d.s, .int .i64 u.d.w, .int .i64 u.d.b]) (by rfl) rfl ?_ ?_
         ·go_simp
          (try simp only [i64_w])
          try rfl
         refine hK.out _ _ ⟨go_, m8_, (by rw [ha.out]; exact putSel_upk 4 hb_ rfl rfl rfl), Q_HB, Q_RC, Q_BS, Q_Z0, fun h0_ => absurd ((hoff 9 (by kernel_rfl)).symm.trans h0_) (by decide), Q_X8_⟩
        refine steps_cons ?_ ?_
        ·rintro b a w' ⟨go_, m8_, ha, Q_HB, Q_RC, Q_BS, Q_Z0, Q_BO, Q_X8_⟩ hb_ hon hoff
         refine ⟨_, rfl, fun K hK => ?_⟩
         have e59 : a.tmps[59]? = some (.tuple #[.agg #[.int .i64 u.x, .int .i64 u.y, .int .i64 u.d.t, .int .i64 u.d.n, .int .i64 u.d.e, .int .i64 u.d.s, .int .i64 u.d.w, .int .i64 u.d.b], .bool cn]) := by rw [ha]; exact putSel_on (e := (5, 59, .tuple #[.agg #[.int .i64 u.x, .int .i64 u.y, .int .i64 u.d.t, .int .i64 u.d.n, .int .i64 u.d.e, .int .i64 u.d.s, .int .i64 u.d.w, .int .i64 u.d.b], .bool cn])) 3 rfl rfl (hon 5 (by kernel_rfl)) rfl
         replace ha := Aside0.mk ha
         have HB := Aside0.mk Q_HB
         have RC := Aside0.mk Q_RC
         have BS := Aside0.mk Q_BS
         refine value_ (w1 := w') (v := .bool cn) (by rfl) rfl ?_ ?_
         ·go_simp
          (try simp only [i64_w])
          try rfl
         refine hK.out _ _ ⟨go_, m8_, (by rw [ha.out]; exact putSel_upk 5 hb_ rfl rfl rfl), Q_HB, Q_RC, Q_BS, Q_Z0, Q_BO, Q_X8_⟩
        refine steps_cons ?_ ?_
        ·rintro b a w' ⟨go_, m8_, ha, Q_HB, Q_RC, Q_BS, Q_Z0, Q_BO, Q_X8_⟩ hb_ hon hoff
         refine ⟨_, rfl, fun K hK => ?_⟩
         replace ha := Aside0.mk ha
         have HB := Aside0.mk Q_HB
         have RC := Aside0.mk Q_RC
         have BS := Aside0.mk Q_BS
         refine value_ (w1 := ?_) (v := ?_) (by rfl) rfl ?_ ?_
         rotate_left 2
         ·go_simp
          constructor
          ·rfl
          ·rfl
         refine hK.out _ _ ⟨w'.heap.size, (.pointer (some ⟨w'.heap.size, 0, none⟩)), (by rw [ha.out]; exact putSel_upk 6 hb_ rfl rfl rfl), below_alloc HB.out _, Kd.R_alloc RC.out _, blk_alloc BS.out _, fun _ _ => ⟨blk_new _ _, HB.out.size, blk_lt BS.out⟩, fun h0_ => absurd ((hoff 9 (by kernel_rfl)).symm.trans h0_) (by decide), fun _ => rfl⟩
        refine steps_cons ?_ ?_
        ·rintro b a w' ⟨go_, m8_, ha, Q_HB, Q_RC, Q_BS, Q_Z0, Q_BO, Q_X8_⟩ hb_ hon hoff
         refine ⟨_, rfl, fun K hK => ?_⟩
         have e17 : a.tmps[17]? = some (m8_) := by rw [ha]; exact putSel_on (e := (8, 17, m8_)) 6 rfl rfl (hon 8 (by kernel_rfl)) rfl
         rw [Q_X8_ (hon 8 (by kernel_rfl))] at e17
         have e65 : a.tmps[65]? = some (.agg #[.int .i64 u.x, .int .i64 u.y, .int .i64 u.d.t, .int .i64 u.d.n, .int .i64 u.d.e, .int .i64 u.d.s, .int .i64 u.d.w, .int .i64 u.d.b]) := by rw [ha]; exact putSel_on (e := (6, 65, .agg #[.int .i64 u.x, .int .i64 u.y, .int .i64 u.d.t, .int .i64 u.d.n, .int .i64 u.d.e, .int .i64 u.d.s, .int .i64 u.d.w, .int .i64 u.d.b])) 4 rfl rfl (hon 6 (by kernel_rfl)) rfl
         replace ha := Aside0.mk ha
         have HB := Aside0.mk Q_HB
         have RC := Aside0.mk Q_RC
         have BS := Aside0.mk Q_BS
         have Z0 := Aside0.mk (Q_Z0 (hon 8 (by kernel_rfl)) hb_)
         have z0 : w'.cell? ⟨go_, 0, none⟩ = some (.int .i64 0) := blk_cell Z0.out.1 0
         have z1 : w'.cell? ⟨go_, 1, none⟩ = some (.int .i64 0) := blk_cell Z0.out.1 1
         have z2 : w'.cell? ⟨go_, 2, none⟩ = some (.int .i64 0) := blk_cell Z0.out.1 2
         have z3 : w'.cell? ⟨go_, 3, none⟩ = some (.int .i64 0) := blk_cell Z0.out.1 3
         have z4 : w'.cell? ⟨go_, 4, none⟩ = some (.int .i64 0) := blk_cell Z0.out.1 4
         have z5 : w'.cell? ⟨go_, 5, none⟩ = some (.int .i64 0) := blk_cell Z0.out.1 5
         have z6 : w'.cell? ⟨go_, 6, none⟩ = some (.int .i64 0) := blk_cell Z0.out.1 6
         have z7 : w'.cell? ⟨go_, 7, none⟩ = some (.int .i64 0) := blk_cell Z0.out.1 7
         have zf0 := blk_frozen Z0.out.1 0
         have zf1 := blk_frozen Z0.out.1 1
         have zf2 := blk_frozen Z0.out.1 2
         have zf3 := blk_frozen Z0.out.1 3
         have zf4 := blk_frozen Z0.out.1 4
         have zf5 := blk_frozen Z0.out.1 5
         have zf6 := blk_frozen Z0.out.1 6
         have zf7 := blk_frozen Z0.out.1 7
         have hz2_ := Z0.out.2
         have hnS_ : ob ≠ go_ := by have h_ := Z0.out.2.2; omega
         refine skip_ (w1 := ?_) (by rfl) rfl ?_ ?_
         rotate_left
         ·go_simp
          rfl
         refine hK.out _ _ ⟨go_, m8_, (by rw [ha.out]; exact putSel_none (v := undef) rfl), (below_set (below_set (below_set (below_set (below_set (below_set (below_set (below_set HB.out hz2_.1) hz2_.1) hz2_.1) hz2_.1) hz2_.1) hz2_.1) hz2_.1) hz2_.1), Kd.R_mono (Kd.R_far (p := ⟨go_, 7, none⟩) (Kd.R_far (p := ⟨go_, 6, none⟩) (Kd.R_far (p := ⟨go_, 5, none⟩) (Kd.R_far (p := ⟨go_, 4, none⟩) (Kd.R_far (p := ⟨go_, 3, none⟩) (Kd.R_far (p := ⟨go_, 2, none⟩) (Kd.R_far (p := ⟨go_, 1, none⟩) (Kd.R_far (p := ⟨go_, 0, none⟩) (Kd.R_types RC.out Z0.out.1 (by decide)) (fun _ hk => hk.2) _) (fun _ hk => hk.2) _) (fun _ hk => hk.2) _) (fun _ hk => hk.2) _) (fun _ hk => hk.2) _) (fun _ hk => hk.2) _) (fun _ hk => hk.2) _) (fun _ hk => hk.2) _) (fun _ _ => trivial), (blk_far (blk_far (blk_far (blk_far (blk_far (blk_far (blk_far (blk_far BS.out hnS_ _) hnS_ _) hnS_ _) hnS_ _) hnS_ _) hnS_ _) hnS_ _) hnS_ _), fun _ h1_ => absurd ((up_self b 9).symm.trans h1_) (by decide), fun _ => ⟨(blk_put (cs := #[.int .i64 u.x, .int .i64 u.y, .int .i64 u.d.t, .int .i64 u.d.n, .int .i64 u.d.e, .int .i64 u.d.s, .int .i64 u.d.w, .int .i64 0]) (blk_put (cs := #[.int .i64 u.x, .int .i64 u.y, .int .i64 u.d.t, .int .i64 u.d.n, .int .i64 u.d.e, .int .i64 u.d.s, .int .i64 0, .int .i64 0]) (blk_put (cs := #[.int .i64 u.x, .int .i64 u.y, .int .i64 u.d.t, .int .i64 u.d.n, .int .i64 u.d.e, .int .i64 0, .int .i64 0, .int .i64 0]) (blk_put (cs := #[.int .i64 u.x, .int .i64 u.y, .int .i64 u.d.t, .int .i64 u.d.n, .int .i64 0, .int .i64 0, .int .i64 0, .int .i64 0]) (blk_put (cs := #[.int .i64 u.x, .int .i64 u.y, .int .i64 u.d.t, .int .i64 0, .int .i64 0, .int .i64 0, .int .i64 0, .int .i64 0]) (blk_put (cs := #[.int .i64 u.x, .int .i64 u.y, .int .i64 0, .int .i64 0, .int .i64 0, .int .i64 0, .int .i64 0, .int .i64 0]) (blk_put (cs := #[.int .i64 u.x, .int .i64 0, .int .i64 0, .int .i64 0, .int .i64 0, .int .i64 0, .int .i64 0, .int .i64 0]) (blk_put (cs := #[.int .i64 0, .int .i64 0, .int .i64 0, .int .i64 0, .int .i64 0, .int .i64 0, .int .i64 0, .int .i64 0]) Z0.out.1 0 _ rfl) 1 _ rfl) 2 _ rfl) 3 _ rfl) 4 _ rfl) 5 _ rfl) 6 _ rfl) 7 _ rfl), hz2_⟩, Q_X8_⟩
        refine steps_cons ?_ ?_
        ·rintro b a w' ⟨go_, m8_, ha, Q_HB, Q_RC, Q_BS, Q_Z0, Q_BO, Q_X8_⟩ hb_ hon hoff
         refine ⟨_, rfl, fun K hK => ?_⟩
         have e66 : a.tmps[66]? = some (.bool cn) := by rw [ha]; exact putSel_on (e := (7, 66, .bool cn)) 5 rfl rfl (hon 7 (by kernel_rfl)) rfl
         replace ha := Aside0.mk ha
         have HB := Aside0.mk Q_HB
         have RC := Aside0.mk Q_RC
         have BS := Aside0.mk Q_BS
         have BO := Aside0.mk (Q_BO (hon 9 (by kernel_rfl)))
         refine value_ (w1 := w') (v := .bool cn) (by rfl) rfl ?_ ?_
         ·go_simp
          (try simp only [i64_w])
          try rfl
         refine hK.out _ _ ⟨go_, m8_, (by rw [ha.out]; exact putSel_upk 7 hb_ rfl rfl rfl), Q_HB, Q_RC, Q_BS, fun _ h1_ => absurd ((hon 9 (by kernel_rfl)).symm.trans h1_) (by decide), Q_BO, Q_X8_⟩
        exact steps_nil
       ·rintro b a w' hall ⟨go_, m8_, ha, Q_HB, Q_RC, Q_BS, Q_Z0, Q_BO, Q_X8_⟩
        clear BS HB RC
        have hb1_ := hall 1 (by kernel_rfl)
        have hb3_ := hall 3 (by kernel_rfl)
        have hb4_ := hall 4 (by kernel_rfl)
        have hb5_ := hall 5 (by kernel_rfl)
        have hb6_ := hall 6 (by kernel_rfl)
        have hb7_ := hall 7 (by kernel_rfl)
        have hb8_ := hall 8 (by kernel_rfl)
        have hb9_ := hall 9 (by kernel_rfl)
        have hb10_ := hall 10 (by kernel_rfl)
        subst ha
        obtain rfl := Q_X8_ hb8_
        simp only [putSel, hb1_, hb3_, hb4_, hb5_, hb6_, hb7_, hb8_, hb9_, hb10_, if_true, Act.put, List.setIfInBounds_toArray, List.set_cons_zero, List.set_cons_succ]
        have HB := Aside0.mk Q_HB
        clear Q_HB
        have RC := Aside0.mk Q_RC
        clear Q_RC
        have BS := Aside0.mk Q_BS
        clear Q_BS
        clear Q_Z0
        have BO := Aside0.mk (Q_BO hb9_)
        clear Q_BO
        clear hall hb1_ hb3_ hb4_ hb5_ hb6_ hb7_ hb8_ hb9_ hb10_
        cases cn with
        | false =>
         have HST := hid (step_no (C := cs) HX.out HU.out.2.symm)
         go_upto_region 14 with fail
         refine start_ (n := 24) (S := fun w' => True) (ds := []) #[ff, ff, ff, ff, ff, ff, ff, ff, ff, ff, ff, ff, ff, ff, ff, ff, ff, ff, ff, ff, ff, ff, ff, ff] (by kernel_rfl) rfl rfl trivial (fun hHeld => ?_)
         refine with_tabW rcs.tab14 rcs.bits14 (fun HT_ HW_ => ?_)
         have n_HB := hid (below_drew HB.out)
         have n_RC := hid (Kd.R_drew RC.out)
         have n_BS := hid (blk_drew BS.out)
         have n_BO := hid (And.intro (blk_drew BO.out.1) BO.out.2)
         clear HB RC BS BO
         have HB := n_HB
         have RC := n_RC
         have BS := n_BS
         have BO := n_BO
         clear n_HB n_RC n_BS n_BO
         generalize World.drew _ = w14 at HB RC BS BO hHeld ⊢
         refine pure_ (i := 0) (N := some 67) (v := ?_) (a' := ?_) #[tt, ff, ff, ff, ff, ff, ff, ff, ff, ff, ff, ff, ff, ff, ff, ff, ff, ff, ff, ff, ff, ff, ff, ff] rfl rfl (any_of HT_.out (by kernel_rfl)) (fun _ _ _ h => h) (Or.inl ⟨by rfl, ?_⟩) ?_ ?_
         rotate_left
         ·intro w'
          go_simp
          with_reducible rfl
         rotate_left
         ·simp only [Act.put, List.setIfInBounds_toArray, List.set_cons_zero, List.set_cons_succ, i64_w, i32_w]
          rfl
         refine pure_ (i := 1) (N := some 68) (v := ?_) (a' := ?_) #[tt, tt, ff, ff, ff, ff, ff, ff, ff, ff, ff, ff, ff, ff, ff, ff, ff, ff, ff, ff, ff, ff, ff, ff] rfl rfl (any_of HT_.out (by kernel_rfl)) (fun _ _ _ h => h) (Or.inl ⟨by rfl, ?_⟩) ?_ ?_
         rotate_left
         ·intro w'
          go_simp
          with_reducible rfl
         rotate_left
         ·simp only [Act.put, List.setIfInBounds_toArray, List.set_cons_zero, List.set_cons_succ, i64_w, i32_w]
          rfl
         refine inv_at [2, 3, 4, 5, 6, 7, 8, 9, 10, 11, 12, 13, 14, 15, 16, 17, 18, 19, 20, 21, 22, 23] (fun a0_ b a w' => a = putSel a0_ b [(2, 69, undef), (3, 70, undef), (4, 71, undef), (5, 72, undef), (6, 73, undef), (7, 74, undef), (8, 75, undef), (9, 76, undef), (10, 77, undef), (11, 78, undef), (12, 79, undef), (13, 80, undef), (14, 81, undef), (15, 82, undef), (16, 83, undef), (17, 84, undef), (18, 85, undef), (19, 86, undef), (20, 87, undef), (21, 88, undef), (22, 89, undef), (23, 90, .bool false)] ∧ (Below w5.heap.size w5 w') ∧ (Kd.R (Kd.int .i64) 3 w' w5.heap.size (fun _ => True) (.slice (some ⟨b13, 0, none⟩) n c13) cs) ∧ (w'.heap[ob]? = some (.cells (st8 sx) 30 (0, 0))) ∧ (w'.heap[go_]? = some (.cells (st8 u) 30 (0, 0)) ∧ w5.heap.size ≤ go_ ∧ ob < go_)) HT_.out HW_.out (by kernel_rfl) (by kernel_rfl) ?_ ?_ ?_
         ·exact ⟨by simp only [putSel, Bool.false_eq_true, if_false], HB.out, RC.out, BS.out, BO.out⟩
         ·skip
          clear BO BS HB RC
          refine steps_cons ?_ ?_
          ·rintro b a w' ⟨ha, Q_HB, Q_RC, Q_BS, Q_BO⟩ hb_ hon hoff
           refine ⟨_, rfl, fun K hK => ?_⟩
           have e68 : a.tmps[68]? = some (.bool false) := by rw [ha]; exact (putSel_off rfl).trans rfl
           replace ha := Aside0.mk ha
           have HB := Aside0.mk Q_HB
           have RC := Aside0.mk Q_RC
           have BS := Aside0.mk Q_BS
           have BO := Aside0.mk Q_BO
           refine off_ (wanted_off rfl rfl rfl (e68.trans (by first | rfl | (simp [*]; done)))) ?_
           refine hK.out _ _ ⟨(by rw [ha.out]; exact putSel_upk 0 hb_ rfl rfl rfl), Q_HB, Q_RC, Q_BS, Q_BO⟩
          refine steps_cons ?_ ?_
          ·rintro b a w' ⟨ha, Q_HB, Q_RC, Q_BS, Q_BO⟩ hb_ hon hoff
           refine ⟨_, rfl, fun K hK => ?_⟩
           have e68 : a.tmps[68]? = some (.bool false) := by rw [ha]; exact (putSel_off rfl).trans rfl
           replace ha := Aside0.mk ha
           have HB := Aside0.mk Q_HB
           have RC := Aside0.mk Q_RC
           have BS := Aside0.mk Q_BS
           have BO := Aside0.mk Q_BO
           refine off_ (wanted_off rfl rfl rfl (e68.trans (by first | rfl | (simp [*]; done)))) ?_
           refine hK.out _ _ ⟨(by rw [ha.out]; exact putSel_upk 1 hb_ rfl rfl rfl), Q_HB, Q_RC, Q_BS, Q_BO⟩
          refine steps_cons ?_ ?_
          ·rintro b a w' ⟨ha, Q_HB, Q_RC, Q_BS, Q_BO⟩ hb_ hon hoff
           refine ⟨_, rfl, fun K hK => ?_⟩
           have e68 : a.tmps[68]? = some (.bool false) := by rw [ha]; exact (putSel_off rfl).trans rfl
           replace ha := Aside0.mk ha
           have HB := Aside0.mk Q_HB
           have RC := Aside0.mk Q_RC
           have BS := Aside0.mk Q_BS
           have BO := Aside0.mk Q_BO
           refine off_ (wanted_off rfl rfl rfl (e68.trans (by first | rfl | (simp [*]; done)))) ?_
           refine hK.out _ _ ⟨(by rw [ha.out]; exact putSel_upk 2 hb_ rfl rfl rfl), Q_HB, Q_RC, Q_BS, Q_BO⟩
          refine steps_cons ?_ ?_
          ·rintro b a w' ⟨ha, Q_HB, Q_RC, Q_BS, Q_BO⟩ hb_ hon hoff
           refine ⟨_, rfl, fun K hK => ?_⟩
           have e68 : a.tmps[68]? = some (.bool false) := by rw [ha]; exact (putSel_off rfl).trans rfl
           replace ha := Aside0.mk ha
           have HB := Aside0.mk Q_HB
           have RC := Aside0.mk Q_RC
           have BS := Aside0.mk Q_BS
           have BO := Aside0.mk Q_BO
           refine off_ (wanted_off rfl rfl rfl (e68.trans (by first | rfl | (simp [*]; done)))) ?_
           refine hK.out _ _ ⟨(by rw [ha.out]; exact putSel_upk 3 hb_ rfl rfl rfl), Q_HB, Q_RC, Q_BS, Q_BO⟩
          refine steps_cons ?_ ?_
          ·rintro b a w' ⟨ha, Q_HB, Q_RC, Q_BS, Q_BO⟩ hb_ hon hoff
           refine ⟨_, rfl, fun K hK => ?_⟩
           have e68 : a.tmps[68]? = some (.bool false) := by rw [ha]; exact (putSel_off rfl).trans rfl
           replace ha := Aside0.mk ha
           have HB := Aside0.mk Q_HB
           have RC := Aside0.mk Q_RC
           have BS := Aside0.mk Q_BS
           have BO := Aside0.mk Q_BO
           refine off_ (wanted_off rfl rfl rfl (e68.trans (by first | rfl | (simp [*]; done)))) ?_
           refine hK.out _ _ ⟨(by rw [ha.out]; exact putSel_upk 4 hb_ rfl rfl rfl), Q_HB, Q_RC, Q_BS, Q_BO⟩
          refine steps_cons ?_ ?_
          ·rintro b a w' ⟨ha, Q_HB, Q_RC, Q_BS, Q_BO⟩ hb_ hon hoff
           refine ⟨_, rfl, fun K hK => ?_⟩
           have e68 : a.tmps[68]? = some (.bool false) := by rw [ha]; exact (putSel_off rfl).trans rfl
           replace ha := Aside0.mk ha
           have HB := Aside0.mk Q_HB
           have RC := Aside0.mk Q_RC
           have BS := Aside0.mk Q_BS
           have BO := Aside0.mk Q_BO
           refine off_ (wanted_off rfl rfl rfl (e68.trans (by first | rfl | (simp [*]; done)))) ?_
           refine hK.out _ _ ⟨(by rw [ha.out]; exact putSel_upk 5 hb_ rfl rfl rfl), Q_HB, Q_RC, Q_BS, Q_BO⟩
          refine steps_cons ?_ ?_
          ·rintro b a w' ⟨ha, Q_HB, Q_RC, Q_BS, Q_BO⟩ hb_ hon hoff
           refine ⟨_, rfl, fun K hK => ?_⟩
           have e68 : a.tmps[68]? = some (.bool false) := by rw [ha]; exact (putSel_off rfl).trans rfl
           replace ha := Aside0.mk ha
           have HB := Aside0.mk Q_HB
           have RC := Aside0.mk Q_RC
           have BS := Aside0.mk Q_BS
           have BO := Aside0.mk Q_BO
           refine off_ (wanted_off rfl rfl rfl (e68.trans (by first | rfl | (simp [*]; done)))) ?_
           refine hK.out _ _ ⟨(by rw [ha.out]; exact putSel_upk 6 hb_ rfl rfl rfl), Q_HB, Q_RC, Q_BS, Q_BO⟩
          refine steps_cons ?_ ?_
          ·rintro b a w' ⟨ha, Q_HB, Q_RC, Q_BS, Q_BO⟩ hb_ hon hoff
           refine ⟨_, rfl, fun K hK => ?_⟩
           have e68 : a.tmps[68]? = some (.bool false) := by rw [ha]; exact (putSel_off rfl).trans rfl
           replace ha := Aside0.mk ha
           have HB := Aside0.mk Q_HB
           have RC := Aside0.mk Q_RC
           have BS := Aside0.mk Q_BS
           have BO := Aside0.mk Q_BO
           refine off_ (wanted_off rfl rfl rfl (e68.trans (by first | rfl | (simp [*]; done)))) ?_
           refine hK.out _ _ ⟨(by rw [ha.out]; exact putSel_upk 7 hb_ rfl rfl rfl), Q_HB, Q_RC, Q_BS, Q_BO⟩
          refine steps_cons ?_ ?_
          ·rintro b a w' ⟨ha, Q_HB, Q_RC, Q_BS, Q_BO⟩ hb_ hon hoff
           refine ⟨_, rfl, fun K hK => ?_⟩
           have e68 : a.tmps[68]? = some (.bool false) := by rw [ha]; exact (putSel_off rfl).trans rfl
           replace ha := Aside0.mk ha
           have HB := Aside0.mk Q_HB
           have RC := Aside0.mk Q_RC
           have BS := Aside0.mk Q_BS
           have BO := Aside0.mk Q_BO
           refine off_ (wanted_off rfl rfl rfl (e68.trans (by first | rfl | (simp [*]; done)))) ?_
           refine hK.out _ _ ⟨(by rw [ha.out]; exact putSel_upk 8 hb_ rfl rfl rfl), Q_HB, Q_RC, Q_BS, Q_BO⟩
          refine steps_cons ?_ ?_
          ·rintro b a w' ⟨ha, Q_HB, Q_RC, Q_BS, Q_BO⟩ hb_ hon hoff
           refine ⟨_, rfl, fun K hK => ?_⟩
           have e68 : a.tmps[68]? = some (.bool false) := by rw [ha]; exact (putSel_off rfl).trans rfl
           replace ha := Aside0.mk ha
           have HB := Aside0.mk Q_HB
           have RC := Aside0.mk Q_RC
           have BS := Aside0.mk Q_BS
           have BO := Aside0.mk Q_BO
           refine off_ (wanted_off rfl rfl rfl (e68.trans (by first | rfl | (simp [*]; done)))) ?_
           refine hK.out _ _ ⟨(by rw [ha.out]; exact putSel_upk 9 hb_ rfl rfl rfl), Q_HB, Q_RC, Q_BS, Q_BO⟩
          refine steps_cons ?_ ?_
          ·rintro b a w' ⟨ha, Q_HB, Q_RC, Q_BS, Q_BO⟩ hb_ hon hoff
           refine ⟨_, rfl, fun K hK => ?_⟩
           have e68 : a.tmps[68]? = some (.bool false) := by rw [ha]; exact (putSel_off rfl).trans rfl
           replace ha := Aside0.mk ha
           have HB := Aside0.mk Q_HB
           have RC := Aside0.mk Q_RC
           have BS := Aside0.mk Q_BS
           have BO := Aside0.mk Q_BO
           refine off_ (wanted_off rfl rfl rfl (e68.trans (by first | rfl | (simp [*]; done)))) ?_
           refine hK.out _ _ ⟨(by rw [ha.out]; exact putSel_upk 10 hb_ rfl rfl rfl), Q_HB, Q_RC, Q_BS, Q_BO⟩
          refine steps_cons ?_ ?_
          ·rintro b a w' ⟨ha, Q_HB, Q_RC, Q_BS, Q_BO⟩ hb_ hon hoff
           refine ⟨_, rfl, fun K hK => ?_⟩
           have e68 : a.tmps[68]? = some (.bool false) := by rw [ha]; exact (putSel_off rfl).trans rfl
           replace ha := Aside0.mk ha
           have HB := Aside0.mk Q_HB
           have RC := Aside0.mk Q_RC
           have BS := Aside0.mk Q_BS
           have BO := Aside0.mk Q_BO
           refine off_ (wanted_off rfl rfl rfl (e68.trans (by first | rfl | (simp [*]; done)))) ?_
           refine hK.out _ _ ⟨(by rw [ha.out]; exact putSel_upk 11 hb_ rfl rfl rfl), Q_HB, Q_RC, Q_BS, Q_BO⟩
          refine steps_cons ?_ ?_
          ·rintro b a w' ⟨ha, Q_HB, Q_RC, Q_BS, Q_BO⟩ hb_ hon hoff
           refine ⟨_, rfl, fun K hK => ?_⟩
           have e68 : a.tmps[68]? = some (.bool false) := by rw [ha]; exact (putSel_off rfl).trans rfl
           replace ha := Aside0.mk ha
           have HB := Aside0.mk Q_HB
           have RC := Aside0.mk Q_RC
           have BS := Aside0.mk Q_BS
           have BO := Aside0.mk Q_BO
           refine off_ (wanted_off rfl rfl rfl (e68.trans (by first | rfl | (simp [*]; done)))) ?_
           refine hK.out _ _ ⟨(by rw [ha.out]; exact putSel_upk 12 hb_ rfl rfl rfl), Q_HB, Q_RC, Q_BS, Q_BO⟩
          refine steps_cons ?_ ?_
          ·rintro b a w' ⟨ha, Q_HB, Q_RC, Q_BS, Q_BO⟩ hb_ hon hoff
           refine ⟨_, rfl, fun K hK => ?_⟩
           have e68 : a.tmps[68]? = some (.bool false) := by rw [ha]; exact (putSel_off rfl).trans rfl
           replace ha := Aside0.mk ha
           have HB := Aside0.mk Q_HB
           have RC := Aside0.mk Q_RC
           have BS := Aside0.mk Q_BS
           have BO := Aside0.mk Q_BO
           refine off_ (wanted_off rfl rfl rfl (e68.trans (by first | rfl | (simp [*]; done)))) ?_
           refine hK.out _ _ ⟨(by rw [ha.out]; exact putSel_upk 13 hb_ rfl rfl rfl), Q_HB, Q_RC, Q_BS, Q_BO⟩
          refine steps_cons ?_ ?_
          ·rintro b a w' ⟨ha, Q_HB, Q_RC, Q_BS, Q_BO⟩ hb_ hon hoff
           refine ⟨_, rfl, fun K hK => ?_⟩
           have e68 : a.tmps[68]? = some (.bool false) := by rw [ha]; exact (putSel_off rfl).trans rfl
           replace ha := Aside0.mk ha
           have HB := Aside0.mk Q_HB
           have RC := Aside0.mk Q_RC
           have BS := Aside0.mk Q_BS
           have BO := Aside0.mk Q_BO
           refine off_ (wanted_off rfl rfl rfl (e68.trans (by first | rfl | (simp [*]; done)))) ?_
           refine hK.out _ _ ⟨(by rw [ha.out]; exact putSel_upk 14 hb_ rfl rfl rfl), Q_HB, Q_RC, Q_BS, Q_BO⟩
          refine steps_cons ?_ ?_
          ·rintro b a w' ⟨ha, Q_HB, Q_RC, Q_BS, Q_BO⟩ hb_ hon hoff
           refine ⟨_, rfl, fun K hK => ?_⟩
           have e68 : a.tmps[68]? = some (.bool false) := by rw [ha]; exact (putSel_off rfl).trans rfl
           replace ha := Aside0.mk ha
           have HB := Aside0.mk Q_HB
           have RC := Aside0.mk Q_RC
           have BS := Aside0.mk Q_BS
           have BO := Aside0.mk Q_BO
           refine off_ (wanted_off rfl rfl rfl (e68.trans (by first | rfl | (simp [*]; done)))) ?_
           refine hK.out _ _ ⟨(by rw [ha.out]; exact putSel_upk 15 hb_ rfl rfl rfl), Q_HB, Q_RC, Q_BS, Q_BO⟩
          refine steps_cons ?_ ?_
          ·rintro b a w' ⟨ha, Q_HB, Q_RC, Q_BS, Q_BO⟩ hb_ hon hoff
           refine ⟨_, rfl, fun K hK => ?_⟩
           have e68 : a.tmps[68]? = some (.bool false) := by rw [ha]; exact (putSel_off rfl).trans rfl
           replace ha := Aside0.mk ha
           have HB := Aside0.mk Q_HB
           have RC := Aside0.mk Q_RC
           have BS := Aside0.mk Q_BS
           have BO := Aside0.mk Q_BO
           refine off_ (wanted_off rfl rfl rfl (e68.trans (by first | rfl | (simp [*]; done)))) ?_
           refine hK.out _ _ ⟨(by rw [ha.out]; exact putSel_upk 16 hb_ rfl rfl rfl), Q_HB, Q_RC, Q_BS, Q_BO⟩
          refine steps_cons ?_ ?_
          ·rintro b a w' ⟨ha, Q_HB, Q_RC, Q_BS, Q_BO⟩ hb_ hon hoff
           refine ⟨_, rfl, fun K hK => ?_⟩
           have e68 : a.tmps[68]? = some (.bool false) := by rw [ha]; exact (putSel_off rfl).trans rfl
           replace ha := Aside0.mk ha
           have HB := Aside0.mk Q_HB
           have RC := Aside0.mk Q_RC
           have BS := Aside0.mk Q_BS
           have BO := Aside0.mk Q_BO
           refine off_ (wanted_off rfl rfl rfl (e68.trans (by first | rfl | (simp [*]; done)))) ?_
           refine hK.out _ _ ⟨(by rw [ha.out]; exact putSel_upk 17 hb_ rfl rfl rfl), Q_HB, Q_RC, Q_BS, Q_BO⟩
          refine steps_cons ?_ ?_
          ·rintro b a w' ⟨ha, Q_HB, Q_RC, Q_BS, Q_BO⟩ hb_ hon hoff
           refine ⟨_, rfl, fun K hK => ?_⟩
           have e68 : a.tmps[68]? = some (.bool false) := by rw [ha]; exact (putSel_off rfl).trans rfl
           replace ha := Aside0.mk ha
           have HB := Aside0.mk Q_HB
           have RC := Aside0.mk Q_RC
           have BS := Aside0.mk Q_BS
           have BO := Aside0.mk Q_BO
           refine off_ (wanted_off rfl rfl rfl (e68.trans (by first | rfl | (simp [*]; done)))) ?_
           refine hK.out _ _ ⟨(by rw [ha.out]; exact putSel_upk 18 hb_ rfl rfl rfl), Q_HB, Q_RC, Q_BS, Q_BO⟩
          refine steps_cons ?_ ?_
          ·rintro b a w' ⟨ha, Q_HB, Q_RC, Q_BS, Q_BO⟩ hb_ hon hoff
           refine ⟨_, rfl, fun K hK => ?_⟩
           have e68 : a.tmps[68]? = some (.bool false) := by rw [ha]; exact (putSel_off rfl).trans rfl
           replace ha := Aside0.mk ha
           have HB := Aside0.mk Q_HB
           have RC := Aside0.mk Q_RC
           have BS := Aside0.mk Q_BS
           have BO := Aside0.mk Q_BO
           refine off_ (wanted_off rfl rfl rfl (e68.trans (by first | rfl | (simp [*]; done)))) ?_
           refine hK.out _ _ ⟨(by rw [ha.out]; exact putSel_upk 19 hb_ rfl rfl rfl), Q_HB, Q_RC, Q_BS, Q_BO⟩
          refine steps_cons ?_ ?_
          ·rintro b a w' ⟨ha, Q_HB, Q_RC, Q_BS, Q_BO⟩ hb_ hon hoff
           refine ⟨_, rfl, fun K hK => ?_⟩
           have e68 : a.tmps[68]? = some (.bool false) := by rw [ha]; exact (putSel_off rfl).trans rfl
           replace ha := Aside0.mk ha
           have HB := Aside0.mk Q_HB
           have RC := Aside0.mk Q_RC
           have BS := Aside0.mk Q_BS
           have BO := Aside0.mk Q_BO
           refine off_ (wanted_off rfl rfl rfl (e68.trans (by first | rfl | (simp [*]; done)))) ?_
           refine hK.out _ _ ⟨(by rw [ha.out]; exact putSel_upk 20 hb_ rfl rfl rfl), Q_HB, Q_RC, Q_BS, Q_BO⟩
          refine steps_cons ?_ ?_
          ·rintro b a w' ⟨ha, Q_HB, Q_RC, Q_BS, Q_BO⟩ hb_ hon hoff
           refine ⟨_, rfl, fun K hK => ?_⟩
           have e68 : a.tmps[68]? = some (.bool false) := by rw [ha]; exact (putSel_off rfl).trans rfl
           have e89 : a.tmps[89]? = some (undef) := by rw [ha]; exact putSel_on (e := (22, 89, undef)) 20 rfl rfl (hon 22 (by kernel_rfl)) rfl
           replace ha := Aside0.mk ha
           have HB := Aside0.mk Q_HB
           have RC := Aside0.mk Q_RC
           have BS := Aside0.mk Q_BS
           have BO := Aside0.mk Q_BO
           refine value_ (w1 := w') (v := .bool false) (by rfl) rfl ?_ ?_
           ·go_simp
            (try simp only [i64_w])
            try rfl
           refine hK.out _ _ ⟨(by rw [ha.out]; exact putSel_upk 21 hb_ rfl rfl rfl), Q_HB, Q_RC, Q_BS, Q_BO⟩
          exact steps_nil
         ·rintro b a w' hall ⟨ha, Q_HB, Q_RC, Q_BS, Q_BO⟩
          clear BO BS HB RC
          have hb2_ := hall 2 (by kernel_rfl)
          have hb3_ := hall 3 (by kernel_rfl)
          have hb4_ := hall 4 (by kernel_rfl)
          have hb5_ := hall 5 (by kernel_rfl)
          have hb6_ := hall 6 (by kernel_rfl)
          have hb7_ := hall 7 (by kernel_rfl)
          have hb8_ := hall 8 (by kernel_rfl)
          have hb9_ := hall 9 (by kernel_rfl)
          have hb10_ := hall 10 (by kernel_rfl)
          have hb11_ := hall 11 (by kernel_rfl)
          have hb12_ := hall 12 (by kernel_rfl)
          have hb13_ := hall 13 (by kernel_rfl)
          have hb14_ := hall 14 (by kernel_rfl)
          have hb15_ := hall 15 (by kernel_rfl)
          have hb16_ := hall 16 (by kernel_rfl)
          have hb17_ := hall 17 (by kernel_rfl)
          have hb18_ := hall 18 (by kernel_rfl)
          have hb19_ := hall 19 (by kernel_rfl)
          have hb20_ := hall 20 (by kernel_rfl)
          have hb21_ := hall 21 (by kernel_rfl)
          have hb22_ := hall 22 (by kernel_rfl)
          have hb23_ := hall 23 (by kernel_rfl)
          subst ha
          simp only [putSel, hb2_, hb3_, hb4_, hb5_, hb6_, hb7_, hb8_, hb9_, hb10_, hb11_, hb12_, hb13_, hb14_, hb15_, hb16_, hb17_, hb18_, hb19_, hb20_, hb21_, hb22_, hb23_, if_true, Act.put, List.setIfInBounds_toArray, List.set_cons_zero, List.set_cons_succ]
          have HB := Aside0.mk Q_HB
          clear Q_HB
          have RC := Aside0.mk Q_RC
          clear Q_RC
          have BS := Aside0.mk Q_BS
          clear Q_BS
          have BO := Aside0.mk Q_BO
          clear Q_BO
          clear hall hb2_ hb3_ hb4_ hb5_ hb6_ hb7_ hb8_ hb9_ hb10_ hb11_ hb12_ hb13_ hb14_ hb15_ hb16_ hb17_ hb18_ hb19_ hb20_ hb21_ hb22_ hb23_
          go_wp2_with fail
          go_roundw
          case rel => exact ⟨ii + 1, by go_num, by have := HI4.out; omega, by rw [HNX.out, HST.out]; exact RC.out, BS.out, HB.out⟩
          case measure =>
           have := HI4.out
           simp [intOf]
           omega
        | true =>
         obtain ⟨pp, y, hpl, hy, hyu, hpn⟩ := goes HD.out HX.out HI4.out HU.out.2.symm
         obtain ⟨fp, hfp⟩ : ∃ fp, fp = y.2.length := ⟨_, rfl⟩
         obtain ⟨fk, hfk⟩ : ∃ fk, fk = wd.length := ⟨_, rfl⟩
         have HPL := hid (show ((Maps.place u 0 (L.map (·.1))).map valN).getD (.int .i64 0) = .int .i64 (pp : Int) by rw [HU.out.1, hpl]; rfl)
         have HPN := hid (show (pp : Int) < (n : Int) by have := HJ.out.2; omega)
         have HFP := hid (show (L.map fun x => (x.2.length : Int))[pp]? = some (fp : Int) by rw [List.getElem?_map, hy, hfp]; rfl)
         have HFK := hid (show (L.map fun x => (x.2.length : Int))[kk]? = some (fk : Int) by rw [List.getElem?_map, HX.out, hfk]; rfl)
         have hsk := IntR.word_short HD.out kk _ HX.out
         have HWK := hid (show IntKind.i64.wrap ((fk : Int) + 1) = ((fk + 1 : Nat) : Int) by have := HN1.out; have := HLT.out; simp only at hsk; rw [IntWalk.i64_in _ (by omega)]; omega)
         obtain ⟨eqb, heq⟩ : ∃ eqb, eqb = decide ((fp : Int) = ((fk + 1 : Nat) : Int)) := ⟨_, rfl⟩
         have HEQ := hid heq
         have HPY := hid (And.intro hpl (And.intro hy (And.intro hfp hfk)))
         clear hpl hy hyu hpn hfp hfk hsk heq
         go_upto_region 14 with fail
         refine start_ (n := 24) (S := fun w' => True) (ds := []) #[ff, ff, ff, ff, ff, ff, ff, ff, ff, ff, ff, ff, ff, ff, ff, ff, ff, ff, ff, ff, ff, ff, ff, ff] (by kernel_rfl) rfl rfl trivial (fun hHeld => ?_)
         refine with_tabW rcs.tab14 rcs.bits14 (fun HT_ HW_ => ?_)
         have n_HB := hid (below_drew HB.out)
         have n_RC := hid (Kd.R_drew RC.out)
         have n_BS := hid (blk_drew BS.out)
         have n_BO := hid (And.intro (blk_drew BO.out.1) BO.out.2)
         clear HB RC BS BO
         have HB := n_HB
         have RC := n_RC
         have BS := n_BS
         have BO := n_BO
         clear n_HB n_RC n_BS n_BO
         generalize World.drew _ = w14 at HB RC BS BO hHeld ⊢
         refine pure_ (i := 0) (N := some 67) (v := ?_) (a' := ?_) #[tt, ff, ff, ff, ff, ff, ff, ff, ff, ff, ff, ff, ff, ff, ff, ff, ff, ff, ff, ff, ff, ff, ff, ff] rfl rfl (any_of HT_.out (by kernel_rfl)) (fun _ _ _ h => h) (Or.inl ⟨by rfl, ?_⟩) ?_ ?_
         rotate_left
         ·intro w'
          go_simp
          with_reducible rfl
         rotate_left
         ·simp only [Act.put, List.setIfInBounds_toArray, List.set_cons_zero, List.set_cons_succ, i64_w, i32_w]
          rfl
         refine pure_ (i := 1) (N := some 68) (v := ?_) (a' := ?_) #[tt, tt, ff, ff, ff, ff, ff, ff, ff, ff, ff, ff, ff, ff, ff, ff, ff, ff, ff, ff, ff, ff, ff, ff] rfl rfl (any_of HT_.out (by kernel_rfl)) (fun _ _ _ h => h) (Or.inl ⟨by rfl, ?_⟩) ?_ ?_
         rotate_left
         ·intro w'
          go_simp
          with_reducible rfl
         rotate_left
         ·simp only [Act.put, List.setIfInBounds_toArray, List.set_cons_zero, List.set_cons_succ, i64_w, i32_w]
          rfl
         refine inv_at [2, 3, 4, 5, 6, 7, 8, 9, 10, 11, 12, 13, 14, 15, 16, 17, 18, 19, 20, 21, 22, 23] (fun a0_ b a w' => a = putSel a0_ b [(2, 69, .pointer (some ⟨Br, 0, none⟩)), (3, 70, .pointer (some ⟨Br, 0, none⟩)), (4, 71, .pointer (some ⟨Br, 3, none⟩)), (5, 72, .slice (some ⟨b3, 0, none⟩) n c3), (6, 73, .pointer (some ⟨Br, 0, none⟩)), (7, 74, .pointer (some ⟨Br, 0, none⟩)), (8, 75, .pointer (some ⟨Br, 4, none⟩)), (9, 76, .map (some M)), (10, 77, .agg #[.int .i64 u.x, .int .i64 u.y, .int .i64 u.d.t, .int .i64 u.d.n, .int .i64 u.d.e, .int .i64 u.d.s, .int .i64 u.d.w, .int .i64 u.d.b]), (11, 78, .int .i64 (pp : Int)), (12, 79, .pointer (some ⟨b3, pp, none⟩)), (13, 80, .int .i64 (fp : Int)), (14, 81, .pointer (some ⟨Br, 0, none⟩)), (15, 82, .pointer (some ⟨Br, 0, none⟩)), (16, 83, .pointer (some ⟨Br, 3, none⟩)), (17, 84, .slice (some ⟨b3, 0, none⟩) n c3), (18, 85, .int .i64 (kk : Int)), (19, 86, .pointer (some ⟨b3, kk, none⟩)), (20, 87, .int .i64 (fk : Int)), (21, 88, .int .i64 ((fk + 1 : Nat) : Int)), (22, 89, .bool eqb), (23, 90, .bool eqb)] ∧ (Below w5.heap.size w5 w') ∧ (Kd.R (Kd.int .i64) 3 w' w5.heap.size (fun _ => True) (.slice (some ⟨b13, 0, none⟩) n c13) cs) ∧ (w'.heap[ob]? = some (.cells (st8 sx) 30 (0, 0))) ∧ (w'.heap[go_]? = some (.cells (st8 u) 30 (0, 0)) ∧ w5.heap.size ≤ go_ ∧ ob < go_)) HT_.out HW_.out (by kernel_rfl) (by kernel_rfl) ?_ ?_ ?_
         ·exact ⟨by simp only [putSel, Bool.false_eq_true, if_false], HB.out, RC.out, BS.out, BO.out⟩
         ·skip
          clear BO BS HB RC
          refine steps_cons ?_ ?_
          ·rintro b a w' ⟨ha, Q_HB, Q_RC, Q_BS, Q_BO⟩ hb_ hon hoff
           refine ⟨_, rfl, fun K hK => ?_⟩
           have e8 : a.tmps[8]? = some (.pointer (some ⟨Br, 0, none⟩)) := by rw [ha]; exact (putSel_off rfl).trans rfl
           have e68 : a.tmps[68]? = some (.bool true) := by rw [ha]; exact (putSel_off rfl).trans rfl
           replace ha := Aside0.mk ha
           have HB := Aside0.mk Q_HB
           have RC := Aside0.mk Q_RC
           have BS := Aside0.mk Q_BS
           have BO := Aside0.mk Q_BO
           refine value_ (w1 := w') (v := .pointer (some ⟨Br, 0, none⟩)) (wanted_on rfl rfl rfl (e68.trans (by first | rfl | (simp [*]; done)))) rfl ?_ ?_
           ·go_simp
            (try simp only [i64_w])
            try rfl
           refine hK.out _ _ ⟨(by rw [ha.out]; exact putSel_upk 0 hb_ rfl rfl rfl), Q_HB, Q_RC, Q_BS, Q_BO⟩
          refine steps_cons ?_ ?_
          ·rintro b a w' ⟨ha, Q_HB, Q_RC, Q_BS, Q_BO⟩ hb_ hon hoff
           refine ⟨_, rfl, fun K hK => ?_⟩
           have e69 : a.tmps[69]? = some (.pointer (some ⟨Br, 0, none⟩)) := by rw [ha]; exact putSel_on (e := (2, 69, .pointer (some ⟨Br, 0, none⟩))) 0 rfl rfl (hon 2 (by kernel_rfl)) rfl
           have e68 : a.tmps[68]? = some (.bool true) := by rw [ha]; exact (putSel_off rfl).trans rfl
           replace ha := Aside0.mk ha
           have HB := Aside0.mk Q_HB
           have RC := Aside0.mk Q_RC
           have BS := Aside0.mk Q_BS
           have BO := Aside0.mk Q_BO
           refine value_ (w1 := w') (v := .pointer (some ⟨Br, 0, none⟩)) (wanted_on rfl rfl rfl (e68.trans (by first | rfl | (simp [*]; done)))) rfl ?_ ?_
           ·go_simp
            (try simp only [i64_w])
            try rfl
           refine hK.out _ _ ⟨(by rw [ha.out]; exact putSel_upk 1 hb_ rfl rfl rfl), Q_HB, Q_RC, Q_BS, Q_BO⟩
          refine steps_cons ?_ ?_
          ·rintro b a w' ⟨ha, Q_HB, Q_RC, Q_BS, Q_BO⟩ hb_ hon hoff
           refine ⟨_, rfl, fun K hK => ?_⟩
           have e70 : a.tmps[70]? = some (.pointer (some ⟨Br, 0, none⟩)) := by rw [ha]; exact putSel_on (e := (3, 70, .pointer (some ⟨Br, 0, none⟩))) 1 rfl rfl (hon 3 (by kernel_rfl)) rfl
           have e68 : a.tmps[68]? = some (.bool true) := by rw [ha]; exact (putSel_off rfl).trans rfl
           replace ha := Aside0.mk ha
           have HB := Aside0.mk Q_HB
           have RC := Aside0.mk Q_RC
           have BS := Aside0.mk Q_BS
           have BO := Aside0.mk Q_BO
           refine value_ (w1 := w') (v := .pointer (some ⟨Br, 3, none⟩)) (wanted_on rfl rfl rfl (e68.trans (by first | rfl | (simp [*]; done)))) rfl ?_ ?_
           ·go_simp
            (try simp only [i64_w])
            try rfl
           refine hK.out _ _ ⟨(by rw [ha.out]; exact putSel_upk 2 hb_ rfl rfl rfl), Q_HB, Q_RC, Q_BS, Q_BO⟩
          refine steps_cons ?_ ?_
          ·rintro b a w' ⟨ha, Q_HB, Q_RC, Q_BS, Q_BO⟩ hb_ hon hoff
           refine ⟨_, rfl, fun K hK => ?_⟩
           have e71 : a.tmps[71]? = some (.pointer (some ⟨Br, 3, none⟩)) := by rw [ha]; exact putSel_on (e := (4, 71, .pointer (some ⟨Br, 3, none⟩))) 2 rfl rfl (hon 4 (by kernel_rfl)) rfl
           have e68 : a.tmps[68]? = some (.bool true) := by rw [ha]; exact (putSel_off rfl).trans rfl
           replace ha := Aside0.mk ha
           have HB := Aside0.mk Q_HB
           have RC := Aside0.mk Q_RC
           have BS := Aside0.mk Q_BS
           have BO := Aside0.mk Q_BO
           have hv_ : w'.cell? ⟨Br, 3, none⟩ = some (.slice (some ⟨b3, 0, none⟩) n c3) := blk_cell (RS.below HRS.out HB.out).blk 3
           refine value_ (w1 := w') (v := .slice (some ⟨b3, 0, none⟩) n c3) (wanted_on rfl rfl rfl (e68.trans (by first | rfl | (simp [*]; done)))) rfl ?_ ?_
           ·go_simp
            (try simp only [i64_w])
            try rfl
           refine hK.out _ _ ⟨(by rw [ha.out]; exact putSel_upk 3 hb_ rfl rfl rfl), Q_HB, Q_RC, Q_BS, Q_BO⟩
          refine steps_cons ?_ ?_
          ·rintro b a w' ⟨ha, Q_HB, Q_RC, Q_BS, Q_BO⟩ hb_ hon hoff
           refine ⟨_, rfl, fun K hK => ?_⟩
           have e8 : a.tmps[8]? = some (.pointer (some ⟨Br, 0, none⟩)) := by rw [ha]; exact (putSel_off rfl).trans rfl
           have e68 : a.tmps[68]? = some (.bool true) := by rw [ha]; exact (putSel_off rfl).trans rfl
           replace ha := Aside0.mk ha
           have HB := Aside0.mk Q_HB
           have RC := Aside0.mk Q_RC
           have BS := Aside0.mk Q_BS
           have BO := Aside0.mk Q_BO
           refine value_ (w1 := w') (v := .pointer (some ⟨Br, 0, none⟩)) (wanted_on rfl rfl rfl (e68.trans (by first | rfl | (simp [*]; done)))) rfl ?_ ?_
           ·go_simp
            (try simp only [i64_w])
            try rfl
           refine hK.out _ _ ⟨(by rw [ha.out]; exact putSel_upk 4 hb_ rfl rfl rfl), Q_HB, Q_RC, Q_BS, Q_BO⟩
          refine steps_cons ?_ ?_
          ·rintro b a w' ⟨ha, Q_HB, Q_RC, Q_BS, Q_BO⟩ hb_ hon hoff
           refine ⟨_, rfl, fun K hK => ?_⟩
           have e73 : a.tmps[73]? = some (.pointer (some ⟨Br, 0, none⟩)) := by rw [ha]; exact putSel_on (e := (6, 73, .pointer (some ⟨Br, 0, none⟩))) 4 rfl rfl (hon 6 (by kernel_rfl)) rfl
           have e68 : a.tmps[68]? = some (.bool true) := by rw [ha]; exact (putSel_off rfl).trans rfl
           replace ha := Aside0.mk ha
           have HB := Aside0.mk Q_HB
           have RC := Aside0.mk Q_RC
           have BS := Aside0.mk Q_BS
           have BO := Aside0.mk Q_BO
           refine value_ (w1 := w') (v := .pointer (some ⟨Br, 0, none⟩)) (wanted_on rfl rfl rfl (e68.trans (by first | rfl | (simp [*]; done)))) rfl ?_ ?_
           ·go_simp
            (try simp only [i64_w])
            try rfl
           refine hK.out _ _ ⟨(by rw [ha.out]; exact putSel_upk 5 hb_ rfl rfl rfl), Q_HB, Q_RC, Q_BS, Q_BO⟩
          refine steps_cons ?_ ?_
          ·rintro b a w' ⟨ha, Q_HB, Q_RC, Q_BS, Q_BO⟩ hb_ hon hoff
           refine ⟨_, rfl, fun K hK => ?_⟩
           have e74 : a.tmps[74]? = some (.pointer (some ⟨Br, 0, none⟩)) := by rw [ha]; exact putSel_on (e := (7, 74, .pointer (some ⟨Br, 0, none⟩))) 5 rfl rfl (hon 7 (by kernel_rfl)) rfl
           have e68 : a.tmps[68]? = some (.bool true) := by rw [ha]; exact (putSel_off rfl).trans rfl
           replace ha := Aside0.mk ha
           have HB := Aside0.mk Q_HB
           have RC := Aside0.mk Q_RC
           have BS := Aside0.mk Q_BS
           have BO := Aside0.mk Q_BO
           refine value_ (w1 := w') (v := .pointer (some ⟨Br, 4, none⟩)) (wanted_on rfl rfl rfl (e68.trans (by first | rfl | (simp [*]; done)))) rfl ?_ ?_
           ·go_simp
            (try simp only [i64_w])
            try rfl
           refine hK.out _ _ ⟨(by rw [ha.out]; exact putSel_upk 6 hb_ rfl rfl rfl), Q_HB, Q_RC, Q_BS, Q_BO⟩
          refine steps_cons ?_ ?_
          ·rintro b a w' ⟨ha, Q_HB, Q_RC, Q_BS, Q_BO⟩ hb_ hon hoff
           refine ⟨_, rfl, fun K hK => ?_⟩
           have e75 : a.tmps[75]? = some (.pointer (some ⟨Br, 4, none⟩)) := by rw [ha]; exact putSel_on (e := (8, 75, .pointer (some ⟨Br, 4, none⟩))) 6 rfl rfl (hon 8 (by kernel_rfl)) rfl
           have e68 : a.tmps[68]? = some (.bool true) := by rw [ha]; exact (putSel_off rfl).trans rfl
           replace ha := Aside0.mk ha
           have HB := Aside0.mk Q_HB
           have RC := Aside0.mk Q_RC
           have BS := Aside0.mk Q_BS
           have BO := Aside0.mk Q_BO
           have hv_ : w'.cell? ⟨Br, 4, none⟩ = some (.map (some M)) := blk_cell (RS.below HRS.out HB.out).blk 4
           refine value_ (w1 := w') (v := .map (some M)) (wanted_on rfl rfl rfl (e68.trans (by first | rfl | (simp [*]; done)))) rfl ?_ ?_
           ·go_simp
            (try simp only [i64_w])
            try rfl
           refine hK.out _ _ ⟨(by rw [ha.out]; exact putSel_upk 7 hb_ rfl rfl rfl), Q_HB, Q_RC, Q_BS, Q_BO⟩
          refine steps_cons ?_ ?_
          ·rintro b a w' ⟨ha, Q_HB, Q_RC, Q_BS, Q_BO⟩ hb_ hon hoff
           refine ⟨_, rfl, fun K hK => ?_⟩
           have e17 : a.tmps[17]? = some (.pointer (some ⟨go_, 0, none⟩)) := by rw [ha]; exact (putSel_off rfl).trans rfl
           have e68 : a.tmps[68]? = some (.bool true) := by rw [ha]; exact (putSel_off rfl).trans rfl
           replace ha := Aside0.mk ha
           have HB := Aside0.mk Q_HB
           have RC := Aside0.mk Q_RC
           have BS := Aside0.mk Q_BS
           have BO := Aside0.mk Q_BO
           have o0 : w'.cell? ⟨go_, 0, none⟩ = some (.int .i64 u.x) := blk_cell BO.out.1 0
           have o1 : w'.cell? ⟨go_, 1, none⟩ = some (.int .i64 u.y) := blk_cell BO.out.1 1
           have o2 : w'.cell? ⟨go_, 2, none⟩ = some (.int .i64 u.d.t) := blk_cell BO.out.1 2
           have o3 : w'.cell? ⟨go_, 3, none⟩ = some (.int .i64 u.d.n) := blk_cell BO.out.1 3
           have o4 : w'.cell? ⟨go_, 4, none⟩ = some (.int .i64 u.d.e) := blk_cell BO.out.1 4
           have o5 : w'.cell? ⟨go_, 5, none⟩ = some (.int .i64 u.d.s) := blk_cell BO.out.1 5
           have o6 : w'.cell? ⟨go_, 6, none⟩ = some (.int .i64 u.d.w) := blk_cell BO.out.1 6
           have o7 : w'.cell? ⟨go_, 7, none⟩ = some (.int .i64 u.d.b) := blk_cell BO.out.1 7
           refine value_ (w1 := w') (v := .agg #[.int .i64 u.x, .int .i64 u.y, .int .i64 u.d.t, .int .i64 u.d.n, .int .i64 u.d.e, .int .i64 u.d.s, .int .i64 u.d.w, .int .i64 u.d.b]) (wanted_on rfl rfl rfl (e68.trans (by first | rfl | (simp [*]; done)))) rfl ?_ ?_
           ·go_simp
            (try simp only [i64_w])
            try rfl
           refine hK.out _ _ ⟨(by rw [ha.out]; exact putSel_upk 8 hb_ rfl rfl rfl), Q_HB, Q_RC, Q_BS, Q_BO⟩
          refine steps_cons ?_ ?_
          ·rintro b a w' ⟨ha, Q_HB, Q_RC, Q_BS, Q_BO⟩ hb_ hon hoff
           refine ⟨_, rfl, fun K hK => ?_⟩
           have e76 : a.tmps[76]? = some (.map (some M)) := by rw [ha]; exact putSel_on (e := (9, 76, .map (some M))) 7 rfl rfl (hon 9 (by kernel_rfl)) rfl
           have e77 : a.tmps[77]? = some (.agg #[.int .i64 u.x, .int .i64 u.y, .int .i64 u.d.t, .int .i64 u.d.n, .int .i64 u.d.e, .int .i64 u.d.s, .int .i64 u.d.w, .int .i64 u.d.b]) := by rw [ha]; exact putSel_on (e := (10, 77, .agg #[.int .i64 u.x, .int .i64 u.y, .int .i64 u.d.t, .int .i64 u.d.n, .int .i64 u.d.e, .int .i64 u.d.s, .int .i64 u.d.w, .int .i64 u.d.b])) 8 rfl rfl (hon 10 (by kernel_rfl)) rfl
           have e68 : a.tmps[68]? = some (.bool true) := by rw [ha]; exact (putSel_off rfl).trans rfl
           replace ha := Aside0.mk ha
           have HB := Aside0.mk Q_HB
           have RC := Aside0.mk Q_RC
           have BS := Aside0.mk Q_BS
           have BO := Aside0.mk Q_BO
           have hlk_ := look_run (val := valN) fits Tryd.underlying60 (Reached.zeroI w') (RS.below HRS.out HB.out).map u false
           rw [show encSt u = _ from rfl, if_neg (by decide), HPL.out] at hlk_
           refine value_ (w1 := w') (v := .int .i64 (pp : Int)) (wanted_on rfl rfl rfl (e68.trans (by first | rfl | (simp [*]; done)))) rfl ?_ ?_
           ·go_simp
            (try simp only [i64_w])
            try rfl
           refine hK.out _ _ ⟨(by rw [ha.out]; exact putSel_upk 9 hb_ rfl rfl rfl), Q_HB, Q_RC, Q_BS, Q_BO⟩
          refine steps_cons ?_ ?_
          ·rintro b a w' ⟨ha, Q_HB, Q_RC, Q_BS, Q_BO⟩ hb_ hon hoff
           refine ⟨_, rfl, fun K hK => ?_⟩
           have e72 : a.tmps[72]? = some (.slice (some ⟨b3, 0, none⟩) n c3) := by rw [ha]; exact putSel_on (e := (5, 72, .slice (some ⟨b3, 0, none⟩) n c3)) 3 rfl rfl (hon 5 (by kernel_rfl)) rfl
           have e78 : a.tmps[78]? = some (.int .i64 (pp : Int)) := by rw [ha]; exact putSel_on (e := (11, 78, .int .i64 (pp : Int))) 9 rfl rfl (hon 11 (by kernel_rfl)) rfl
           have e68 : a.tmps[68]? = some (.bool true) := by rw [ha]; exact (putSel_off rfl).trans rfl
           replace ha := Aside0.mk ha
           have HB := Aside0.mk Q_HB
           have RC := Aside0.mk Q_RC
           have BS := Aside0.mk Q_BS
           have BO := Aside0.mk Q_BO
           have hp0_ : (0 : Int) ≤ (pp : Int) := by omega
           have hp1_ : (pp : Int) < (n : Int) := HPN.out
           refine value_ (w1 := w') (v := .pointer (some ⟨b3, pp, none⟩)) (wanted_on rfl rfl rfl (e68.trans (by first | rfl | (simp [*]; done)))) rfl ?_ ?_
           ·go_simp
            (try simp only [i64_w])
            try rfl
           refine hK.out _ _ ⟨(by rw [ha.out]; exact putSel_upk 10 hb_ rfl rfl rfl), Q_HB, Q_RC, Q_BS, Q_BO⟩
          refine steps_cons ?_ ?_
          ·rintro b a w' ⟨ha, Q_HB, Q_RC, Q_BS, Q_BO⟩ hb_ hon hoff
           refine ⟨_, rfl, fun K hK => ?_⟩
           have e79 : a.tmps[79]? = some (.pointer (some ⟨b3, pp, none⟩)) := by rw [ha]; exact putSel_on (e := (12, 79, .pointer (some ⟨b3, pp, none⟩))) 10 rfl rfl (hon 12 (by kernel_rfl)) rfl
           have e68 : a.tmps[68]? = some (.bool true) := by rw [ha]; exact (putSel_off rfl).trans rfl
           replace ha := Aside0.mk ha
           have HB := Aside0.mk Q_HB
           have RC := Aside0.mk Q_RC
           have BS := Aside0.mk Q_BS
           have BO := Aside0.mk Q_BO
           have hc_ := int_cell (RS.below HRS.out HB.out).r3 pp (fp : Int) HFP.out
           refine value_ (w1 := w') (v := .int .i64 (fp : Int)) (wanted_on rfl rfl rfl (e68.trans (by first | rfl | (simp [*]; done)))) rfl ?_ ?_
           ·go_simp
            (try simp only [i64_w])
            try rfl
           refine hK.out _ _ ⟨(by rw [ha.out]; exact putSel_upk 11 hb_ rfl rfl rfl), Q_HB, Q_RC, Q_BS, Q_BO⟩
          refine steps_cons ?_ ?_
          ·rintro b a w' ⟨ha, Q_HB, Q_RC, Q_BS, Q_BO⟩ hb_ hon hoff
           refine ⟨_, rfl, fun K hK => ?_⟩
           have e8 : a.tmps[8]? = some (.pointer (some ⟨Br, 0, none⟩)) := by rw [ha]; exact (putSel_off rfl).trans rfl
           have e68 : a.tmps[68]? = some (.bool true) := by rw [ha]; exact (putSel_off rfl).trans rfl
           replace ha := Aside0.mk ha
           have HB := Aside0.mk Q_HB
           have RC := Aside0.mk Q_RC
           have BS := Aside0.mk Q_BS
           have BO := Aside0.mk Q_BO
           refine value_ (w1 := w') (v := .pointer (some ⟨Br, 0, none⟩)) (wanted_on rfl rfl rfl (e68.trans (by first | rfl | (simp [*]; done)))) rfl ?_ ?_
           ·go_simp
            (try simp only [i64_w])
            try rfl
           refine hK.out _ _ ⟨(by rw [ha.out]; exact putSel_upk 12 hb_ rfl rfl rfl), Q_HB, Q_RC, Q_BS, Q_BO⟩
          refine steps_cons ?_ ?_
          ·rintro b a w' ⟨ha, Q_HB, Q_RC, Q_BS, Q_BO⟩ hb_ hon hoff
           refine ⟨_, rfl, fun K hK => ?_⟩
           have e81 : a.tmps[81]? = some (.pointer (some ⟨Br, 0, none⟩)) := by rw [ha]; exact putSel_on (e := (14, 81, .pointer (some ⟨Br, 0, none⟩))) 12 rfl rfl (hon 14 (by kernel_rfl)) rfl
           have e68 : a.tmps[68]? = some (.bool true) := by rw [ha]; exact (putSel_off rfl).trans rfl
           replace ha := Aside0.mk ha
           have HB := Aside0.mk Q_HB
           have RC := Aside0.mk Q_RC
           have BS := Aside0.mk Q_BS
           have BO := Aside0.mk Q_BO
           refine value_ (w1 := w') (v := .pointer (some ⟨Br, 0, none⟩)) (wanted_on rfl rfl rfl (e68.trans (by first | rfl | (simp [*]; done)))) rfl ?_ ?_
           ·go_simp
            (try simp only [i64_w])
            try rfl
           refine hK.out _ _ ⟨(by rw [ha.out]; exact putSel_upk 13 hb_ rfl rfl rfl), Q_HB, Q_RC, Q_BS, Q_BO⟩
          refine steps_cons ?_ ?_
          ·rintro b a w' ⟨ha, Q_HB, Q_RC, Q_BS, Q_BO⟩ hb_ hon hoff
           refine ⟨_, rfl, fun K hK => ?_⟩
           have e82 : a.tmps[82]? = some (.pointer (some ⟨Br, 0, none⟩)) := by rw [ha]; exact putSel_on (e := (15, 82, .pointer (some ⟨Br, 0, none⟩))) 13 rfl rfl (hon 15 (by kernel_rfl)) rfl
           have e68 : a.tmps[68]? = some (.bool true) := by rw [ha]; exact (putSel_off rfl).trans rfl
           replace ha := Aside0.mk ha
           have HB := Aside0.mk Q_HB
           have RC := Aside0.mk Q_RC
           have BS := Aside0.mk Q_BS
           have BO := Aside0.mk Q_BO
           refine value_ (w1 := w') (v := .pointer (some ⟨Br, 3, none⟩)) (wanted_on rfl rfl rfl (e68.trans (by first | rfl | (simp [*]; done)))) rfl ?_ ?_
           ·go_simp
            (try simp only [i64_w])
            try rfl
           refine hK.out _ _ ⟨(by rw [ha.out]; exact putSel_upk 14 hb_ rfl rfl rfl), Q_HB, Q_RC, Q_BS, Q_BO⟩
          refine steps_cons ?_ ?_
          ·rintro b a w' ⟨ha, Q_HB, Q_RC, Q_BS, Q_BO⟩ hb_ hon hoff
           refine ⟨_, rfl, fun K hK => ?_⟩
           have e83 : a.tmps[83]? = some (.pointer (some ⟨Br, 3, none⟩)) := by rw [ha]; exact putSel_on (e := (16, 83, .pointer (some ⟨Br, 3, none⟩))) 14 rfl rfl (hon 16 (by kernel_rfl)) rfl
           have e68 : a.tmps[68]? = some (.bool true) := by rw [ha]; exact (putSel_off rfl).trans rfl
           replace ha := Aside0.mk ha
           have HB := Aside0.mk Q_HB
           have RC := Aside0.mk Q_RC
           have BS := Aside0.mk Q_BS
           have BO := Aside0.mk Q_BO
           have hv_ : w'.cell? ⟨Br, 3, none⟩ = some (.slice (some ⟨b3, 0, none⟩) n c3) := blk_cell (RS.below HRS.out HB.out).blk 3
           refine value_ (w1 := w') (v := .slice (some ⟨b3, 0, none⟩) n c3) (wanted_on rfl rfl rfl (e68.trans (by first | rfl | (simp [*]; done)))) rfl ?_ ?_
           ·go_simp
            (try simp only [i64_w])
            try rfl
           refine hK.out _ _ ⟨(by rw [ha.out]; exact putSel_upk 15 hb_ rfl rfl rfl), Q_HB, Q_RC, Q_BS, Q_BO⟩
          refine steps_cons ?_ ?_
          ·rintro b a w' ⟨ha, Q_HB, Q_RC, Q_BS, Q_BO⟩ hb_ hon hoff
           refine ⟨_, rfl, fun K hK => ?_⟩
           have e14 : a.tmps[14]? = some (.int .i64 (kk : Int)) := by rw [ha]; exact (putSel_off rfl).trans rfl
           have e68 : a.tmps[68]? = some (.bool true) := by rw [ha]; exact (putSel_off rfl).trans rfl
           replace ha := Aside0.mk ha
           have HB := Aside0.mk Q_HB
           have RC := Aside0.mk Q_RC
           have BS := Aside0.mk Q_BS
           have BO := Aside0.mk Q_BO
           refine value_ (w1 := w') (v := .int .i64 (kk : Int)) (wanted_on rfl rfl rfl (e68.trans (by first | rfl | (simp [*]; done)))) rfl ?_ ?_
           ·go_simp
            (try simp only [i64_w])
            try rfl
           refine hK.out _ _ ⟨(by rw [ha.out]; exact putSel_upk 16 hb_ rfl rfl rfl), Q_HB, Q_RC, Q_BS, Q_BO⟩
          refine steps_cons ?_ ?_
          ·rintro b a w' ⟨ha, Q_HB, Q_RC, Q_BS, Q_BO⟩ hb_ hon hoff
           refine ⟨_, rfl, fun K hK => ?_⟩
           have e84 : a.tmps[84]? = some (.slice (some ⟨b3, 0, none⟩) n c3) := by rw [ha]; exact putSel_on (e := (17, 84, .slice (some ⟨b3, 0, none⟩) n c3)) 15 rfl rfl (hon 17 (by kernel_rfl)) rfl
           have e85 : a.tmps[85]? = some (.int .i64 (kk : Int)) := by rw [ha]; exact putSel_on (e := (18, 85, .int .i64 (kk : Int))) 16 rfl rfl (hon 18 (by kernel_rfl)) rfl
           have e68 : a.tmps[68]? = some (.bool true) := by rw [ha]; exact (putSel_off rfl).trans rfl
           replace ha := Aside0.mk ha
           have HB := Aside0.mk Q_HB
           have RC := Aside0.mk Q_RC
           have BS := Aside0.mk Q_BS
           have BO := Aside0.mk Q_BO
           have hk0_ : (0 : Int) ≤ (kk : Int) := by omega
           have hk1_ : (kk : Int) < (n : Int) := HKN.out
           refine value_ (w1 := w') (v := .pointer (some ⟨b3, kk, none⟩)) (wanted_on rfl rfl rfl (e68.trans (by first | rfl | (simp [*]; done)))) rfl ?_ ?_
           ·go_simp
            (try simp only [i64_w])
            try rfl
           refine hK.out _ _ ⟨(by rw [ha.out]; exact putSel_upk 17 hb_ rfl rfl rfl), Q_HB, Q_RC, Q_BS, Q_BO⟩
          refine steps_cons ?_ ?_
          ·rintro b a w' ⟨ha, Q_HB, Q_RC, Q_BS, Q_BO⟩ hb_ hon hoff
           refine ⟨_, rfl, fun K hK => ?_⟩
           have e86 : a.tmps[86]? = some (.pointer (some ⟨b3, kk, none⟩)) := by rw [ha]; exact putSel_on (e := (19, 86, .pointer (some ⟨b3, kk, none⟩))) 17 rfl rfl (hon 19 (by kernel_rfl)) rfl
           have e68 : a.tmps[68]? = some (.bool true) := by rw [ha]; exact (putSel_off rfl).trans rfl
           replace ha := Aside0.mk ha
           have HB := Aside0.mk Q_HB
           have RC := Aside0.mk Q_RC
           have BS := Aside0.mk Q_BS
           have BO := Aside0.mk Q_BO
           have hc_ := int_cell (RS.below HRS.out HB.out).r3 kk (fk : Int) HFK.out
           refine value_ (w1 := w') (v := .int .i64 (fk : Int)) (wanted_on rfl rfl rfl (e68.trans (by first | rfl | (simp [*]; done)))) rfl ?_ ?_
           ·go_simp
            (try simp only [i64_w])
            try rfl
           refine hK.out _ _ ⟨(by rw [ha.out]; exact putSel_upk 18 hb_ rfl rfl rfl), Q_HB, Q_RC, Q_BS, Q_BO⟩
          refine steps_cons ?_ ?_
          ·rintro b a w' ⟨ha, Q_HB, Q_RC, Q_BS, Q_BO⟩ hb_ hon hoff
           refine ⟨_, rfl, fun K hK => ?_⟩
           have e87 : a.tmps[87]? = some (.int .i64 (fk : Int)) := by rw [ha]; exact putSel_on (e := (20, 87, .int .i64 (fk : Int))) 18 rfl rfl (hon 20 (by kernel_rfl)) rfl
           have e68 : a.tmps[68]? = some (.bool true) := by rw [ha]; exact (putSel_off rfl).trans rfl
           replace ha := Aside0.mk ha
           have HB := Aside0.mk Q_HB
           have RC := Aside0.mk Q_RC
           have BS := Aside0.mk Q_BS
           have BO := Aside0.mk Q_BO
           have hw_ : IntKind.i64.wrap ((fk : Int) + 1) = ((fk + 1 : Nat) : Int) := HWK.out
           refine value_ (w1 := w') (v := .int .i64 ((fk + 1 : Nat) : Int)) (wanted_on rfl rfl rfl (e68.trans (by first | rfl | (simp [*]; done)))) rfl ?_ ?_
           ·go_simp
            (try simp only [i64_w])
            try rfl
           refine hK.out _ _ ⟨(by rw [ha.out]; exact putSel_upk 19 hb_ rfl rfl rfl), Q_HB, Q_RC, Q_BS, Q_BO⟩
          refine steps_cons ?_ ?_
          ·rintro b a w' ⟨ha, Q_HB, Q_RC, Q_BS, Q_BO⟩ hb_ hon hoff
           refine ⟨_, rfl, fun K hK => ?_⟩
           have e80 : a.tmps[80]? = some (.int .i64 (fp : Int)) := by rw [ha]; exact putSel_on (e := (13, 80, .int .i64 (fp : Int))) 11 rfl rfl (hon 13 (by kernel_rfl)) rfl
           have e88 : a.tmps[88]? = some (.int .i64 ((fk + 1 : Nat) : Int)) := by rw [ha]; exact putSel_on (e := (21, 88, .int .i64 ((fk + 1 : Nat) : Int))) 19 rfl rfl (hon 21 (by kernel_rfl)) rfl
           have e68 : a.tmps[68]? = some (.bool true) := by rw [ha]; exact (putSel_off rfl).trans rfl
           replace ha := Aside0.mk ha
           have HB := Aside0.mk Q_HB
           have RC := Aside0.mk Q_RC
           have BS := Aside0.mk Q_BS
           have BO := Aside0.mk Q_BO
           have hqe_ : decide ((fp : Int) = (fk : Int) + 1) = eqb := HEQ.out.symm
           have hqf_ : ((fp : Int) == (fk : Int) + 1) = eqb := HEQ.out.symm
           refine value_ (w1 := w') (v := .bool eqb) (wanted_on rfl rfl rfl (e68.trans (by first | rfl | (simp [*]; done)))) rfl ?_ ?_
           ·go_simp
            (try simp only [i64_w])
            try rfl
           refine hK.out _ _ ⟨(by rw [ha.out]; exact putSel_upk 20 hb_ rfl rfl rfl), Q_HB, Q_RC, Q_BS, Q_BO⟩
          refine steps_cons ?_ ?_
          ·rintro b a w' ⟨ha, Q_HB, Q_RC, Q_BS, Q_BO⟩ hb_ hon hoff
           refine ⟨_, rfl, fun K hK => ?_⟩
           have e68 : a.tmps[68]? = some (.bool true) := by rw [ha]; exact (putSel_off rfl).trans rfl
           have e89 : a.tmps[89]? = some (.bool eqb) := by rw [ha]; exact putSel_on (e := (22, 89, .bool eqb)) 20 rfl rfl (hon 22 (by kernel_rfl)) rfl
           replace ha := Aside0.mk ha
           have HB := Aside0.mk Q_HB
           have RC := Aside0.mk Q_RC
           have BS := Aside0.mk Q_BS
           have BO := Aside0.mk Q_BO
           refine value_ (w1 := w') (v := .bool eqb) (by rfl) rfl ?_ ?_
           ·go_simp
            (try simp only [i64_w])
            try rfl
           refine hK.out _ _ ⟨(by rw [ha.out]; exact putSel_upk 21 hb_ rfl rfl rfl), Q_HB, Q_RC, Q_BS, Q_BO⟩
          exact steps_nil
         ·rintro b a w' hall ⟨ha, Q_HB, Q_RC, Q_BS, Q_BO⟩
          clear BO BS HB RC
          have hb2_ := hall 2 (by kernel_rfl)
          have hb3_ := hall 3 (by kernel_rfl)
          have hb4_ := hall 4 (by kernel_rfl)
          have hb5_ := hall 5 (by kernel_rfl)
          have hb6_ := hall 6 (by kernel_rfl)
          have hb7_ := hall 7 (by kernel_rfl)
          have hb8_ := hall 8 (by kernel_rfl)
          have hb9_ := hall 9 (by kernel_rfl)
          have hb10_ := hall 10 (by kernel_rfl)
          have hb11_ := hall 11 (by kernel_rfl)
          have hb12_ := hall 12 (by kernel_rfl)
          have hb13_ := hall 13 (by kernel_rfl)
          have hb14_ := hall 14 (by kernel_rfl)
          have hb15_ := hall 15 (by kernel_rfl)
          have hb16_ := hall 16 (by kernel_rfl)
          have hb17_ := hall 17 (by kernel_rfl)
          have hb18_ := hall 18 (by kernel_rfl)
          have hb19_ := hall 19 (by kernel_rfl)
          have hb20_ := hall 20 (by kernel_rfl)
          have hb21_ := hall 21 (by kernel_rfl)
          have hb22_ := hall 22 (by kernel_rfl)
          have hb23_ := hall 23 (by kernel_rfl)
          subst ha
          simp only [putSel, hb2_, hb3_, hb4_, hb5_, hb6_, hb7_, hb8_, hb9_, hb10_, hb11_, hb12_, hb13_, hb14_, hb15_, hb16_, hb17_, hb18_, hb19_, hb20_, hb21_, hb22_, hb23_, if_true, Act.put, List.setIfInBounds_toArray, List.set_cons_zero, List.set_cons_succ]
          have HB := Aside0.mk Q_HB
          clear Q_HB
          have RC := Aside0.mk Q_RC
          clear Q_RC
          have BS := Aside0.mk Q_BS
          clear Q_BS
          have BO := Aside0.mk Q_BO
          clear Q_BO
          clear hall hb2_ hb3_ hb4_ hb5_ hb6_ hb7_ hb8_ hb9_ hb10_ hb11_ hb12_ hb13_ hb14_ hb15_ hb16_ hb17_ hb18_ hb19_ hb20_ hb21_ hb22_ hb23_
          cases eqb with
          | false =>
           have HST := hid (step_far (C := cs) HX.out HU.out.2.symm HPY.out.1 HPY.out.2.1 (by have h_ := of_decide_eq_false HEQ.out.symm; rw [← HPY.out.2.2.1]; show fp ≠ wd.length + 1; rw [← HPY.out.2.2.2]; omega))
           go_wp2_with fail
           go_roundw
           case rel => exact ⟨ii + 1, by go_num, by have := HI4.out; omega, by rw [HNX.out, HST.out]; exact RC.out, BS.out, HB.out⟩
           case measure =>
            have := HI4.out
            simp [intOf]
            omega
          | true =>
           obtain ⟨cp, hcp⟩ : ∃ v, cs[pp]? = some v := ⟨_, List.getElem?_eq_getElem (by have h1_ := HCL.out; have h2_ := HPN.out; omega)⟩
           obtain ⟨ck, hck⟩ : ∃ v, cs[kk]? = some v := ⟨_, List.getElem?_eq_getElem (by have h1_ := HCL.out; have h2_ := HLT.out; omega)⟩
           have HST := hid (step_add (C := cs) HX.out HU.out.2.symm HPY.out.1 HPY.out.2.1 (by have h_ := of_decide_eq_true HEQ.out.symm; rw [← HPY.out.2.2.1]; show fp = wd.length + 1; rw [← HPY.out.2.2.2]; omega) hcp hck)
           have HCP := hid hcp
           have HCK := hid hck
           clear hcp hck
           go_upto_region 15 with fail
           refine start_ (n := 16) (S := fun w' => True) (ds := []) #[ff, ff, ff, ff, ff, ff, ff, ff, ff, ff, ff, ff, ff, ff, ff, ff] (by kernel_rfl) rfl rfl trivial (fun hHeld => ?_)
           refine with_tabW rcs.tab15 rcs.bits15 (fun HT_ HW_ => ?_)
           have n_HB := hid (below_drew HB.out)
           have n_RC := hid (Kd.R_drew RC.out)
           have n_BS := hid (blk_drew BS.out)
           have n_BO := hid (And.intro (blk_drew BO.out.1) BO.out.2)
           clear HB RC BS BO
           have HB := n_HB
           have RC := n_RC
           have BS := n_BS
           have BO := n_BO
           clear n_HB n_RC n_BS n_BO
           generalize World.drew _ = w15 at HB RC BS BO hHeld ⊢
           refine pure_ (i := 0) (N := some 91) (v := ?_) (a' := ?_) #[tt, ff, ff, ff, ff, ff, ff, ff, ff, ff, ff, ff, ff, ff, ff, ff] rfl rfl (any_of HT_.out (by kernel_rfl)) (fun _ _ _ h => h) (Or.inl ⟨by rfl, ?_⟩) ?_ ?_
           rotate_left
           ·intro w'
            go_simp
            with_reducible rfl
           rotate_left
           ·simp only [Act.put, List.setIfInBounds_toArray, List.set_cons_zero, List.set_cons_succ, i64_w, i32_w]
            rfl
           refine pure_ (i := 1) (N := some 92) (v := ?_) (a' := ?_) #[tt, tt, ff, ff, ff, ff, ff, ff, ff, ff, ff, ff, ff, ff, ff, ff] rfl rfl (any_of HT_.out (by kernel_rfl)) (fun _ _ _ h => h) (Or.inl ⟨by rfl, ?_⟩) ?_ ?_
           rotate_left
           ·intro w'
            go_simp
            with_reducible rfl
           rotate_left
           ·simp only [Act.put, List.setIfInBounds_toArray, List.set_cons_zero, List.set_cons_succ, i64_w, i32_w]
            rfl
           refine pure_ (i := 2) (N := some 93) (v := ?_) (a' := ?_) #[tt, tt, tt, ff, ff, ff, ff, ff, ff, ff, ff, ff, ff, ff, ff, ff] rfl rfl (any_of HT_.out (by kernel_rfl)) (fun _ _ _ h => h) (Or.inl ⟨by rfl, ?_⟩) ?_ ?_
           rotate_left
           ·intro w'
            go_simp
            with_reducible rfl
           rotate_left
           ·simp only [Act.put, List.setIfInBounds_toArray, List.set_cons_zero, List.set_cons_succ, i64_w, i32_w]
            rfl
           refine pure_ (i := 3) (N := some 94) (v := ?_) (a' := ?_) #[tt, tt, tt, tt, ff, ff, ff, ff, ff, ff, ff, ff, ff, ff, ff, ff] rfl rfl (any_of HT_.out (by kernel_rfl)) (fun _ _ _ h => h) (Or.inl ⟨by rfl, ?_⟩) ?_ ?_
           rotate_left
           ·intro w'
            go_simp
            with_reducible rfl
           rotate_left
           ·simp only [Act.put, List.setIfInBounds_toArray, List.set_cons_zero, List.set_cons_succ, i64_w, i32_w]
            rfl
           refine pure_ (i := 9) (N := some 100) (v := ?_) (a' := ?_) #[tt, tt, tt, tt, ff, ff, ff, ff, ff, tt, ff, ff, ff, ff, ff, ff] rfl rfl (any_of HT_.out (by kernel_rfl)) (fun _ _ _ h => h) (Or.inl ⟨by rfl, ?_⟩) ?_ ?_
           rotate_left
           ·intro w'
            go_simp
            with_reducible rfl
           rotate_left
           ·simp only [Act.put, List.setIfInBounds_toArray, List.set_cons_zero, List.set_cons_succ, i64_w, i32_w]
            rfl
           refine pure_ (i := 10) (N := some 101) (v := ?_) (a' := ?_) #[tt, tt, tt, tt, ff, ff, ff, ff, ff, tt, tt, ff, ff, ff, ff, ff] rfl rfl (any_of HT_.out (by kernel_rfl)) (fun _ _ _ h => h) (Or.inl ⟨by rfl, ?_⟩) ?_ ?_
           rotate_left
           ·intro w'
            go_simp
            with_reducible rfl
           rotate_left
           ·simp only [Act.put, List.setIfInBounds_toArray, List.set_cons_zero, List.set_cons_succ, i64_w, i32_w]
            rfl
           refine inv_at [4, 5, 6, 7, 8, 11, 12, 13, 14, 15] (fun a0_ b a w' => a = putSel a0_ b [(4, 95, .map (some M)), (5, 96, .agg #[.int .i64 u.x, .int .i64 u.y, .int .i64 u.d.t, .int .i64 u.d.n, .int .i64 u.d.e, .int .i64 u.d.s, .int .i64 u.d.w, .int .i64 u.d.b]), (6, 97, .int .i64 (pp : Int)), (7, 98, .pointer (some ⟨b13, pp, none⟩)), (8, 99, .int .i64 cp), (11, 102, .pointer (some ⟨b13, kk, none⟩)), (12, 103, .int .i64 ck), (13, 104, .int .i64 (IntKind.i64.wrap (cp + ck))), (14, 105, .pointer (some ⟨b13, pp, none⟩))] ∧ (Below w5.heap.size w5 w') ∧ (b 15 = false → Kd.R (Kd.int .i64) 3 w' w5.heap.size (fun _ => True) (.slice (some ⟨b13, 0, none⟩) n c13) cs) ∧ (b 15 = true → Kd.R (Kd.int .i64) 3 w' w5.heap.size (fun _ => True) (.slice (some ⟨b13, 0, none⟩) n c13) (cs.set pp (IntKind.i64.wrap (cp + ck)))) ∧ (w'.heap[ob]? = some (.cells (st8 sx) 30 (0, 0))) ∧ (w'.heap[go_]? = some (.cells (st8 u) 30 (0, 0)) ∧ w5.heap.size ≤ go_ ∧ ob < go_)) HT_.out HW_.out (by kernel_rfl) (by kernel_rfl) ?_ ?_ ?_
           ·exact ⟨by simp only [putSel, Bool.false_eq_true, if_false], HB.out, fun _ => RC.out, fun h_ => absurd h_ (by decide), BS.out, BO.out⟩
           ·skip
            clear BO BS HB RC
            refine steps_cons ?_ ?_
            ·rintro b a w' ⟨ha, Q_HB, Q_RC, Q_PC, Q_BS, Q_BO⟩ hb_ hon hoff
             refine ⟨_, rfl, fun K hK => ?_⟩
             have e94 : a.tmps[94]? = some (.pointer (some ⟨Br, 4, none⟩)) := by rw [ha]; exact (putSel_off rfl).trans rfl
             replace ha := Aside0.mk ha
             have HB := Aside0.mk Q_HB
             have RC := Aside0.mk (Q_RC (hoff 15 (by kernel_rfl)))
             have BS := Aside0.mk Q_BS
             have BO := Aside0.mk Q_BO
             have hv_ : w'.cell? ⟨Br, 4, none⟩ = some (.map (some M)) := blk_cell (RS.below HRS.out HB.out).blk 4
             refine value_ (w1 := w') (v := .map (some M)) (by rfl) rfl ?_ ?_
             ·go_simp
              (try simp only [i64_w])
              try rfl
             refine hK.out _ _ ⟨(by rw [ha.out]; exact putSel_upk 0 hb_ rfl rfl rfl), Q_HB, Q_RC, fun h0_ => absurd ((hoff 15 (by kernel_rfl)).symm.trans h0_) (by decide), Q_BS, Q_BO⟩
            refine steps_cons ?_ ?_
            ·rintro b a w' ⟨ha, Q_HB, Q_RC, Q_PC, Q_BS, Q_BO⟩ hb_ hon hoff
             refine ⟨_, rfl, fun K hK => ?_⟩
             have e17 : a.tmps[17]? = some (.pointer (some ⟨go_, 0, none⟩)) := by rw [ha]; exact (putSel_off rfl).trans rfl
             replace ha := Aside0.mk ha
             have HB := Aside0.mk Q_HB
             have RC := Aside0.mk (Q_RC (hoff 15 (by kernel_rfl)))
             have BS := Aside0.mk Q_BS
             have BO := Aside0.mk Q_BO
             have o0 : w'.cell? ⟨go_, 0, none⟩ = some (.int .i64 u.x) := blk_cell BO.out.1 0
             have o1 : w'.cell? ⟨go_, 1, none⟩ = some (.int .i64 u.y) := blk_cell BO.out.1 1
             have o2 : w'.cell? ⟨go_, 2, none⟩ = some (.int .i64 u.d.t) := blk_cell BO.out.1 2
             have o3 : w'.cell? ⟨go_, 3, none⟩ = some (.int .i64 u.d.n) := blk_cell BO.out.1 3
             have o4 : w'.cell? ⟨go_, 4, none⟩ = some (.int .i64 u.d.e) := blk_cell BO.out.1 4
             have o5 : w'.cell? ⟨go_, 5, none⟩ = some (.int .i64 u.d.s) := blk_cell BO.out.1 5
             have o6 : w'.cell? ⟨go_, 6, none⟩ = some (.int .i64 u.d.w) := blk_cell BO.out.1 6
             have o7 : w'.cell? ⟨go_, 7, none⟩ = some (.int .i64 u.d.b) := blk_cell BO.out.1 7
             refine value_ (w1 := w') (v := .agg #[.int .i64 u.x, .int .i64 u.y, .int .i64 u.d.t, .int .i64 u.d.n, .int .i64 u.d.e, .int .i64 u.d.s, .int .i64 u.d.w, .int .i64 u.d.b]) (by rfl) rfl ?_ ?_
             ·go_simp
              (try simp only [i64_w])
              try rfl
             refine hK.out _ _ ⟨(by rw [ha.out]; exact putSel_upk 1 hb_ rfl rfl rfl), Q_HB, Q_RC, fun h0_ => absurd ((hoff 15 (by kernel_rfl)).symm.trans h0_) (by decide), Q_BS, Q_BO⟩
            refine steps_cons ?_ ?_
            ·rintro b a w' ⟨ha, Q_HB, Q_RC, Q_PC, Q_BS, Q_BO⟩ hb_ hon hoff
             refine ⟨_, rfl, fun K hK => ?_⟩
             have e95 : a.tmps[95]? = some (.map (some M)) := by rw [ha]; exact putSel_on (e := (4, 95, .map (some M))) 0 rfl rfl (hon 4 (by kernel_rfl)) rfl
             have e96 : a.tmps[96]? = some (.agg #[.int .i64 u.x, .int .i64 u.y, .int .i64 u.d.t, .int .i64 u.d.n, .int .i64 u.d.e, .int .i64 u.d.s, .int .i64 u.d.w, .int .i64 u.d.b]) := by rw [ha]; exact putSel_on (e := (5, 96, .agg #[.int .i64 u.x, .int .i64 u.y, .int .i64 u.d.t, .int .i64 u.d.n, .int .i64 u.d.e, .int .i64 u.d.s, .int .i64 u.d.w, .int .i64 u.d.b])) 1 rfl rfl (hon 5 (by kernel_rfl)) rfl
             replace ha := Aside0.mk ha
             have HB := Aside0.mk Q_HB
             have RC := Aside0.mk (Q_RC (hoff 15 (by kernel_rfl)))
             have BS := Aside0.mk Q_BS
             have BO := Aside0.mk Q_BO
             have hlk_ := look_run (val := valN) fits Tryd.underlying60 (Reached.zeroI w') (RS.below HRS.out HB.out).map u false
             rw [show encSt u = _ from rfl, if_neg (by decide), HPL.out] at hlk_
             refine value_ (w1 := w') (v := .int .i64 (pp : Int)) (by rfl) rfl ?_ ?_
             ·go_simp
              (try simp only [i64_w])
              try rfl
             refine hK.out _ _ ⟨(by rw [ha.out]; exact putSel_upk 2 hb_ rfl rfl rfl), Q_HB, Q_RC, fun h0_ => absurd ((hoff 15 (by kernel_rfl)).symm.trans h0_) (by decide), Q_BS, Q_BO⟩
            refine steps_cons ?_ ?_
            ·rintro b a w' ⟨ha, Q_HB, Q_RC, Q_PC, Q_BS, Q_BO⟩ hb_ hon hoff
             refine ⟨_, rfl, fun K hK => ?_⟩
             have e91 : a.tmps[91]? = some (.slice (some ⟨b13, 0, none⟩) n c13) := by rw [ha]; exact (putSel_off rfl).trans rfl
             have e97 : a.tmps[97]? = some (.int .i64 (pp : Int)) := by rw [ha]; exact putSel_on (e := (6, 97, .int .i64 (pp : Int))) 2 rfl rfl (hon 6 (by kernel_rfl)) rfl
             replace ha := Aside0.mk ha
             have HB := Aside0.mk Q_HB
             have RC := Aside0.mk (Q_RC (hoff 15 (by kernel_rfl)))
             have BS := Aside0.mk Q_BS
             have BO := Aside0.mk Q_BO
             have hp0_ : (0 : Int) ≤ (pp : Int) := by omega
             have hp1_ : (pp : Int) < (n : Int) := HPN.out
             refine value_ (w1 := w') (v := .pointer (some ⟨b13, pp, none⟩)) (by rfl) rfl ?_ ?_
             ·go_simp
              (try simp only [i64_w])
              try rfl
             refine hK.out _ _ ⟨(by rw [ha.out]; exact putSel_upk 3 hb_ rfl rfl rfl), Q_HB, Q_RC, fun h0_ => absurd ((hoff 15 (by kernel_rfl)).symm.trans h0_) (by decide), Q_BS, Q_BO⟩
            refine steps_cons ?_ ?_
            ·rintro b a w' ⟨ha, Q_HB, Q_RC, Q_PC, Q_BS, Q_BO⟩ hb_ hon hoff
             refine ⟨_, rfl, fun K hK => ?_⟩
             have e98 : a.tmps[98]? = some (.pointer (some ⟨b13, pp, none⟩)) := by rw [ha]; exact putSel_on (e := (7, 98, .pointer (some ⟨b13, pp, none⟩))) 3 rfl rfl (hon 7 (by kernel_rfl)) rfl
             replace ha := Aside0.mk ha
             have HB := Aside0.mk Q_HB
             have RC := Aside0.mk (Q_RC (hoff 15 (by kernel_rfl)))
             have BS := Aside0.mk Q_BS
             have BO := Aside0.mk Q_BO
             have hc_ := int_cell RC.out pp cp HCP.out
             refine value_ (w1 := w') (v := .int .i64 cp) (by rfl) rfl ?_ ?_
             ·go_simp
              (try simp only [i64_w])
              try rfl
             refine hK.out _ _ ⟨(by rw [ha.out]; exact putSel_upk 4 hb_ rfl rfl rfl), Q_HB, Q_RC, fun h0_ => absurd ((hoff 15 (by kernel_rfl)).symm.trans h0_) (by decide), Q_BS, Q_BO⟩
            refine steps_cons ?_ ?_
            ·rintro b a w' ⟨ha, Q_HB, Q_RC, Q_PC, Q_BS, Q_BO⟩ hb_ hon hoff
             refine ⟨_, rfl, fun K hK => ?_⟩
             have e100 : a.tmps[100]? = some (.slice (some ⟨b13, 0, none⟩) n c13) := by rw [ha]; exact (putSel_off rfl).trans rfl
             have e101 : a.tmps[101]? = some (.int .i64 (kk : Int)) := by rw [ha]; exact (putSel_off rfl).trans rfl
             replace ha := Aside0.mk ha
             have HB := Aside0.mk Q_HB
             have RC := Aside0.mk (Q_RC (hoff 15 (by kernel_rfl)))
             have BS := Aside0.mk Q_BS
             have BO := Aside0.mk Q_BO
             have hk0_ : (0 : Int) ≤ (kk : Int) := by omega
             have hk1_ : (kk : Int) < (n : Int) := HKN.out
             refine value_ (w1 := w') (v := .pointer (some ⟨b13, kk, none⟩)) (by rfl) rfl ?_ ?_
             ·go_simp
              (try simp only [i64_w])
              try rfl
             refine hK.out _ _ ⟨(by rw [ha.out]; exact putSel_upk 5 hb_ rfl rfl rfl), Q_HB, Q_RC, fun h0_ => absurd ((hoff 15 (by kernel_rfl)).symm.trans h0_) (by decide), Q_BS, Q_BO⟩
            refine steps_cons ?_ ?_
            ·rintro b a w' ⟨ha, Q_HB, Q_RC, Q_PC, Q_BS, Q_BO⟩ hb_ hon hoff
             refine ⟨_, rfl, fun K hK => ?_⟩
             have e102 : a.tmps[102]? = some (.pointer (some ⟨b13, kk, none⟩)) := by rw [ha]; exact putSel_on (e := (11, 102, .pointer (some ⟨b13, kk, none⟩))) 5 rfl rfl (hon 11 (by kernel_rfl)) rfl
             replace ha := Aside0.mk ha
             have HB := Aside0.mk Q_HB
             have RC := Aside0.mk (Q_RC (hoff 15 (by kernel_rfl)))
             have BS := Aside0.mk Q_BS
             have BO := Aside0.mk Q_BO
             have hc_ := int_cell RC.out kk ck HCK.out
             refine value_ (w1 := w') (v := .int .i64 ck) (by rfl) rfl ?_ ?_
             ·go_simp
              (try simp only [i64_w])
              try rfl
             refine hK.out _ _ ⟨(by rw [ha.out]; exact putSel_upk 6 hb_ rfl rfl rfl), Q_HB, Q_RC, fun h0_ => absurd ((hoff 15 (by kernel_rfl)).symm.trans h0_) (by decide), Q_BS, Q_BO⟩
            refine steps_cons ?_ ?_
            ·rintro b a w' ⟨ha, Q_HB, Q_RC, Q_PC, Q_BS, Q_BO⟩ hb_ hon hoff
             refine ⟨_, rfl, fun K hK => ?_⟩
             have e99 : a.tmps[99]? = some (.int .i64 cp) := by rw [ha]; exact putSel_on (e := (8, 99, .int .i64 cp)) 4 rfl rfl (hon 8 (by kernel_rfl)) rfl
             have e103 : a.tmps[103]? = some (.int .i64 ck) := by rw [ha]; exact putSel_on (e := (12, 103, .int .i64 ck)) 6 rfl rfl (hon 12 (by kernel_rfl)) rfl
             replace ha := Aside0.mk ha
             have HB := Aside0.mk Q_HB
             have RC := Aside0.mk (Q_RC (hoff 15 (by kernel_rfl)))
             have BS := Aside0.mk Q_BS
             have BO := Aside0.mk Q_BO
             refine value_ (w1 := w') (v := .int .i64 (IntKind.i64.wrap (cp + ck))) (by rfl) rfl ?_ ?_
             ·go_simp
              (try simp only [i64_w])
              try rfl
             refine hK.out _ _ ⟨(by rw [ha.out]; exact putSel_upk 7 hb_ rfl rfl rfl), Q_HB, Q_RC, fun h0_ => absurd ((hoff 15 (by kernel_rfl)).symm.trans h0_) (by decide), Q_BS, Q_BO⟩
            refine steps_cons ?_ ?_
            ·rintro b a w' ⟨ha, Q_HB, Q_RC, Q_PC, Q_BS, Q_BO⟩ hb_ hon hoff
             refine ⟨_, rfl, fun K hK => ?_⟩
             have e91 : a.tmps[91]? = some (.slice (some ⟨b13, 0, none⟩) n c13) := by rw [ha]; exact (putSel_off rfl).trans rfl
             have e97 : a.tmps[97]? = some (.int .i64 (pp : Int)) := by rw [ha]; exact putSel_on (e := (6, 97, .int .i64 (pp : Int))) 2 rfl rfl (hon 6 (by kernel_rfl)) rfl
             replace ha := Aside0.mk ha
             have HB := Aside0.mk Q_HB
             have RC := Aside0.mk (Q_RC (hoff 15 (by kernel_rfl)))
             have BS := Aside0.mk Q_BS
             have BO := Aside0.mk Q_BO
             have hp0_ : (0 : Int) ≤ (pp : Int) := by omega
             have hp1_ : (pp : Int) < (n : Int) := HPN.out
             refine value_ (w1 := w') (v := .pointer (some ⟨b13, pp, none⟩)) (by rfl) rfl ?_ ?_
             ·go_simp
              (try simp only [i64_w])
              try rfl
             refine hK.out _ _ ⟨(by rw [ha.out]; exact putSel_upk 8 hb_ rfl rfl rfl), Q_HB, Q_RC, fun h0_ => absurd ((hoff 15 (by kernel_rfl)).symm.trans h0_) (by decide), Q_BS, Q_BO⟩
            refine steps_cons ?_ ?_
            ·rintro b a w' ⟨ha, Q_HB, Q_RC, Q_PC, Q_BS, Q_BO⟩ hb_ hon hoff
             refine ⟨_, rfl, fun K hK => ?_⟩
             have e105 : a.tmps[105]? = some (.pointer (some ⟨b13, pp, none⟩)) := by rw [ha]; exact putSel_on (e := (14, 105, .pointer (some ⟨b13, pp, none⟩))) 8 rfl rfl (hon 14 (by kernel_rfl)) rfl
             have e104 : a.tmps[104]? = some (.int .i64 (IntKind.i64.wrap (cp + ck))) := by rw [ha]; exact putSel_on (e := (13, 104, .int .i64 (IntKind.i64.wrap (cp + ck)))) 7 rfl rfl (hon 13 (by kernel_rfl)) rfl
             replace ha := Aside0.mk ha
             have HB := Aside0.mk Q_HB
             have RC := Aside0.mk (Q_RC hb_)
             have BS := Aside0.mk Q_BS
             have BO := Aside0.mk Q_BO
             have hov_ := int_cell RC.out pp cp HCP.out
             have hof_ := IntR.int_free RC.out pp (by have h_ := HCL.out; have h2_ := HPN.out; omega)
             have hp_ := Kd.R_putg (enc := fun x : Int => Value.int .i64 x) RC.out (pp : Int) (IntKind.i64.wrap (cp + ck))
             rw [Int.toNat_natCast] at hp_
             have hpb_ := HB13.out
             have hnS_ : ob ≠ b13 := fun e_ => Kd.R_ne RC.out BS.out (by decide) (by rw [e_]; rfl)
             have hnO_ : go_ ≠ b13 := fun e_ => Kd.R_ne RC.out BO.out.1 (by decide) (by rw [e_]; rfl)
             refine skip_ (w1 := ?_) (by rfl) rfl ?_ ?_
             rotate_left
             ·go_simp
              rfl
             refine hK.out _ _ ⟨(by rw [ha.out]; exact putSel_none (v := undef) rfl), below_set HB.out hpb_, fun h0_ => absurd ((up_self b 15).symm.trans h0_) (by decide), fun _ => hp_.1, blk_far BS.out hnS_ _, ⟨blk_far BO.out.1 hnO_ _, BO.out.2⟩⟩
            exact steps_nil
           ·rintro b a w' hall ⟨ha, Q_HB, Q_RC, Q_PC, Q_BS, Q_BO⟩
            clear BO BS HB RC
            have hb4_ := hall 4 (by kernel_rfl)
            have hb5_ := hall 5 (by kernel_rfl)
            have hb6_ := hall 6 (by kernel_rfl)
            have hb7_ := hall 7 (by kernel_rfl)
            have hb8_ := hall 8 (by kernel_rfl)
            have hb11_ := hall 11 (by kernel_rfl)
            have hb12_ := hall 12 (by kernel_rfl)
            have hb13_ := hall 13 (by kernel_rfl)
            have hb14_ := hall 14 (by kernel_rfl)
            have hb15_ := hall 15 (by kernel_rfl)
            subst ha
            simp only [putSel, hb4_, hb5_, hb6_, hb7_, hb8_, hb11_, hb12_, hb13_, hb14_, hb15_, if_true, Act.put, List.setIfInBounds_toArray, List.set_cons_zero, List.set_cons_succ]
            have HB := Aside0.mk Q_HB
            clear Q_HB
            clear Q_RC
            have PC := Aside0.mk (Q_PC hb15_)
            clear Q_PC
            have BS := Aside0.mk Q_BS
            clear Q_BS
            have BO := Aside0.mk Q_BO
            clear Q_BO
            clear hall hb4_ hb5_ hb6_ hb7_ hb8_ hb11_ hb12_ hb13_ hb14_ hb15_
            go_wp2_with fail
            go_roundw
            case rel => exact ⟨ii + 1, by go_num, by have := HI4.out; omega, by rw [HNX.out, HST.out]; exact PC.out, BS.out, HB.out⟩
            case measure =>
             have := HI4.out
             simp [intOf]
             omega
      ·obtain rfl : ii = 4 := by omega
       have hfr : fromC fl0 L (n - (kk + 1)) (someC fl0 L cs0 kk 4) (kk + 1) = res := by
        have h_ := HFR.out.1
        have hl_ := HLT.out
        rw [show n - kk = (n - (kk + 1)) + 1 from by omega, fromC] at h_
        exact h_
       have HFR2 := hid hfr
       have HF := hid (And.intro hR hB)
       have hn1 := HN1.out
       clear hfr hR hS hB h4
       go_wp2_with fail
       go_roundw
       case rel => exact ⟨kk + 1, _, by go_num, HLT.out, by rw [some_len]; exact HFR.out.2, HFR2.out, HF.out.1, HF.out.2⟩
       case measure =>
        have := HLT.out
        simp [intOf]
        omega
    ·obtain rfl : kk = n := by omega
     have hfr := HFR.out.1
     rw [Nat.sub_self, fromC] at hfr
     have hjc := int_cell RC.out j ans (by rw [hfr]; exact HANS.out)
     have hjn1 : (j : Int) < (kk : Int) := by have := HJ.out; omega
     have hge : ¬ ((kk : Int) < (kk : Int)) := by omega
     have HEND := hid (below_then HRS.out.bel HRS.out.bel.size HB.out)
     clear hfr hlt RC HB
     go_wp2_with fail
     go_ret2
     exact ⟨rfl, HEND.out⟩
  ·rw [if_neg (by simpa using hlt), decide_eq_false hlt]
   have hj := At.at_neg hlt
   rw [hj] at HC
   clear hlt hj
   go_enter Tryd.func19, Tryd.ntmps19
   go_wp2_with fail
   refine (HC.out _).mono ?_
   rintro e' w1 ⟨B, M, v0, v1, v2, v3, rfl, hrs⟩
   have HB := hid (below_then (((Below.refl _ w).alloc (Nat.le_refl _) (.cells (st8 t) 30)).alloc (by simp) (.cells (st8 u0) 30)) (by simp; omega) hrs.bel)
   clear hrs
   go_wp2_with fail
   go_ret2
   exact ⟨rfl, HB.out⟩
end Go.Proofs.YthfeiklaoljdnaaDoor.CountS
