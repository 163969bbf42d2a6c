/- The program's prices, walked. Conditions: a record of no more than 900 states. -/
import Derived.Test.YtkoejpimalbhbaaDoorPriceG
namespace Go.Proofs.YtkoejpimalbhbaaDoor.PricesC
set_option maxHeartbeats 16000000
set_option maxRecDepth 100000
open Go.Lib (hid)
open Go.RowKit Go.Proofs.YtkoejpimalbhbaaDoorW.PrintWords Go.Proofs.YtkoejpimalbhbaaDoorW.PrintLast Go.Proofs.YtkoejpimalbhbaaDoor.QBo Go.Proofs.YtkoejpimalbhbaaDoor.Board Go.Proofs.YtkoejpimalbhbaaDoor.BaseR Go.Proofs.YtkoejpimalbhbaaDoor.ReachR Go.Proofs.YtkoejpimalbhbaaDoor.Search Go.Proofs.YtkoejpimalbhbaaDoor.On Go.Proofs.YtkoejpimalbhbaaDoor.To Go.Proofs.YtkoejpimalbhbaaDoor.Maps Go.Proofs.YtkoejpimalbhbaaDoor.PriceG
open Go.Proofs.YtkoejpimalbhbaaDoor.Reach (St)
open Go.Proofs.YtkoejpimalbhbaaDoor.Reached (byt mvf)
open Go.Proofs.YtkoejpimalbhbaaDoor.Price (put put_self put_ne tot rank dear)
set_option linter.unusedVariables false
set_option linter.unusedSimpArgs false

theorem less_walk (p q : Int × Int) (w : World) : Calls Tryd.prog 29 #[.agg #[.int .i64 p.1, .int .i64 p.2], .agg #[.int .i64 q.1, .int .i64 q.2]] w fun e w' => e = .returned (.bool (decide (Price.lt p q))) ∧ Below w.heap.size w w' := by
 obtain ⟨a, b⟩ := p
 obtain ⟨c, d⟩ := q
 simp only
 by_cases h1 : a < c
 ·rw [show decide (Price.lt (a, b) (c, d)) = true from decide_eq_true (.inl h1)]
  go_enter Tryd.func29, Tryd.ntmps29
  go_wp2_with fail
  go_ret
  exact ⟨rfl, ((Below.refl _ w).alloc (Nat.le_refl _) _).alloc (by simp) _⟩
 ·by_cases h2 : a = c
  ·subst h2
   by_cases h3 : b < d
   ·rw [show decide (Price.lt (a, b) (a, d)) = true from decide_eq_true (.inr ⟨rfl, h3⟩)]
    go_enter Tryd.func29, Tryd.ntmps29
    go_wp2_with fail
    go_ret
    exact ⟨rfl, ((Below.refl _ w).alloc (Nat.le_refl _) _).alloc (by simp) _⟩
   ·rw [show decide (Price.lt (a, b) (a, d)) = false from decide_eq_false (by unfold Price.lt; simp only; omega)]
    go_enter Tryd.func29, Tryd.ntmps29
    go_wp2_with fail
    go_ret
    exact ⟨rfl, ((Below.refl _ w).alloc (Nat.le_refl _) _).alloc (by simp) _⟩
  ·rw [show decide (Price.lt (a, b) (c, d)) = false from decide_eq_false (by unfold Price.lt; simp only; omega)]
   go_enter Tryd.func29, Tryd.ntmps29
   go_wp2_with fail
   go_ret
   exact ⟨rfl, ((Below.refl _ w).alloc (Nat.le_refl _) _).alloc (by simp) _⟩
def g0 (T : Nat → Bool) (k : Nat) : Nat → Int × Int := fun j => if j < k ∧ T j = false then (1099511627776, 0) else (0, 0)
theorem g0_yes {T : Nat → Bool} {k : Nat} (h : T k = true) : g0 T (k + 1) = g0 T k := by
 funext j
 unfold g0
 by_cases e : j = k
 ·subst e
  simp [h]
 ·have : j < k + 1 ↔ j < k := by omega
  simp [this]
theorem g0_no {T : Nat → Bool} {k : Nat} (h : T k = false) : g0 T (k + 1) = put (g0 T k) k (1099511627776, 0) := by
 funext j
 unfold g0
 by_cases e : j = k
 ·subst e
  rw [put_self]
  simp [h]
 ·rw [put_ne e]
  have : j < k + 1 ↔ j < k := by omega
  simp [this]
def TL (T : St → Bool) (L : Bfs.Nodes St) (j : Nat) : Bool := match L[j]? with
 | none => false
 | some x => T x.1
abbrev IV (n : Nat) (f : Int → Int → Bool) (T : St → Bool) (L : Bfs.Nodes St) (g : Nat → Int × Int) : Prop := Price.Inv n (nxL f L) (topL L) (TL T L) g
abbrev FX (f : Int → Int → Bool) (L : Bfs.Nodes St) (g : Nat → Int × Int) (a d : Nat) : Prop := Price.Fix (nxL f L) (topL L) g a d
abbrev TT (n : Nat) (g : Nat → Int × Int) : Nat := tot (fun k => rank (g k)) n
abbrev RP (w wr : World) (b7 n c7 : Nat) (g : Nat → Int × Int) : Prop := Kd.R kP 60 wr w.heap.size (fun _ => True) (.slice (some ⟨b7, 0, none⟩) n c7) (rowF n g)
def prs.T17 : Bool × List (List Nat × List Nat) := (true, [([], []), ([], []), ([1], [1]), ([2], [2]), ([3], [3]), ([], []), ([4, 5], [4, 5]), ([6], [6]), ([], []), ([8], [8]), ([0, 7, 9], [0, 7, 9]), ([10], [10]), ([11], [11]), ([11], [11]), ([], []), ([14, 12, 10, 0, 1, 2, 3, 4, 5, 6, 7, 8, 9, 10, 11, 12, 14], [12, 14]), ([13, 15, 0, 1, 2, 3, 4, 5, 6, 7, 8, 9, 10, 11, 12, 13, 14, 15], [13])])
def prs.B17 : List Nat := [0, 0, 2, 6, 14, 0, 62, 126, 0, 256, 1023, 2047, 4095, 4095, 0, 24575, 65535]
theorem prs.tab17 : rtab .any (opsOf Tryd.f16 17) = prs.T17 := by kernel_rfl
theorem prs.bits17 : waitsOk prs.T17.2 prs.B17 = true := by kernel_rfl
def prs.T19 : Bool × List (List Nat × List Nat) := (true, [([], []), ([], []), ([1], [1]), ([2], [2]), ([3], [3]), ([], []), ([4, 5], [4, 5]), ([0, 6], [0, 6]), ([7], [7]), ([], []), ([9, 8, 0, 1, 2, 3, 4, 5, 6, 7, 8, 9], [8, 9])])
def prs.B19 : List Nat := [0, 0, 2, 6, 14, 0, 62, 127, 255, 0, 1023]
theorem prs.tab19 : rtab .any (opsOf Tryd.f16 19) = prs.T19 := by kernel_rfl
theorem prs.bits19 : waitsOk prs.T19.2 prs.B19 = true := by kernel_rfl
def prs.T21 : Bool × List (List Nat × List Nat) := (true, [([], []), ([0], [0]), ([1], [1]), ([2], [2]), ([3], [3]), ([3], [3]), ([3], [3]), ([5, 6, 3], [3, 5, 6]), ([7, 3], [3, 7]), ([4, 8, 3, 3], [3, 4, 8]), ([3, 9], [3, 9])])
def prs.B21 : List Nat := [0, 1, 3, 7, 15, 15, 15, 111, 239, 511, 1023]
theorem prs.tab21 : rtab .any (opsOf Tryd.f16 21) = prs.T21 := by kernel_rfl
theorem prs.bits21 : waitsOk prs.T21.2 prs.B21 = true := by kernel_rfl
theorem prices_walk (T : St → Bool) (f : Int → Int → Bool) (t : St) {L : Bfs.Nodes St} (hd : Bfs.Done (mvf moved (canF f)) t L) (hgd : ∀ x ∈ L, 0 ≤ x.1.d.t ∧ x.1.d.t ≤ 9) (hl : L.length ≤ 900) (X Y : Nat)
  (w0 w : World) (Br M gb gn gc : Nat) (v0 v1 v2 v3 : Value) (hr : RS w0 w Br M L v0 v1 v2 v3)
  (hroll : ∀ sx, sx ∈ L.map (·.1) → ∀ i, i < 4 → ∀ W, Below w.heap.size w W → Calls Tryd.prog 19 #[.slice (some ⟨gb, 0, none⟩) gn gc, .agg (st8 sx), .int .u8 (byt i)] W fun e w' => e = .returned (.tuple #[.agg (st8 (moved sx i)), .bool (canF f sx i)]) ∧ Below W.heap.size W w')
  (his : ∀ sx W, Below w.heap.size w W → Calls Tryd.prog 17 #[.agg (st8 sx), .pointer (some ⟨X, 0, none⟩), .pointer (some ⟨Y, 0, none⟩)] W fun e w' => e = .returned (.bool (T sx)) ∧ Below W.heap.size W w') :
  Calls Tryd.prog 16 #[.pointer (some ⟨Br, 0, none⟩), .slice (some ⟨gb, 0, none⟩) gn gc, .func (.func 17) #[] #[.pointer (some ⟨X, 0, none⟩), .pointer (some ⟨Y, 0, none⟩)]] w fun e w' =>
   ∃ b7 c7 g, e = .returned (.slice (some ⟨b7, 0, none⟩) L.length c7) ∧ RP w w' b7 L.length c7 g ∧ IV L.length f T L g ∧ (∀ a, a < L.length → ∀ d, d < 4 → FX f L g a d) ∧ Below w.heap.size w w' := by
 have hpos := (List.getElem?_eq_some_iff.1 hd.root).1
 obtain ⟨b0, c0, hv0, _, _⟩ := R_form hr.r0 (by rw [List.length_map]; exact hpos)
 rw [List.length_map] at hv0
 have HG := hid (graph hd hgd hl)
 obtain ⟨n, hn⟩ : ∃ n, n = L.length := ⟨_, rfl⟩
 rw [← hn] at hv0 hl hpos HG ⊢
 subst hv0
 have HRS := hid hr
 have HD := hid hd
 have HROLL := hid hroll
 have HIS := hid his
 have HN1 := hid (And.intro hl (And.intro hpos hn))
 have hn9 : n ≤ 900 := hl
 have HB := hid (Below.refl w.heap.size w)
 have f0_ : w.cell? ⟨Br, 0, none⟩ = some (.slice (some ⟨b0, 0, none⟩) n c0) := blk_cell hr.blk 0
 clear hd hgd hl hr hroll his hpos hn
 go_enter Tryd.func16, Tryd.ntmps16
 go_upto_region 2 with (first | ((with_reducible refine gate_dst (N := 22) rfl ?_); refine Kd.R_make kP (w0 := w) w.heap.size 60 rfl (N := 22) rfl 55 (.tmp 21) (.tmp 21) rfl (n : Int) rfl rfl Tryd.underlying55 (.agg #[.int .i64 0, .int .i64 0]) 16 infoP rfl (by decide) (by decide) (0, 0) (ok := fun _ => True) (okp := fun _ => True) (kP_mkM _ _ _ (0, 0)) (fun _ _ => trivial) trivial (by omega) (by have h_ := HN1.out; omega) HB.out HB.out.size ?_; intro v7 w6 ho hb hg hat; rw [Int.toNat_natCast] at ho; have RC := hid ho; clear HB; have HB := hid hb; clear ho hb hg hat))
 obtain ⟨b7, c7, hv7, hb7, _⟩ := R_form RC.out (by rw [List.length_replicate]; exact HN1.out.2.1)
 rw [List.length_replicate] at hv7
 subst hv7
 have HB7 := hid hb7
 have n_RC := hid (show RP w w6 b7 n c7 (g0 (TL T L) 0) from by
  have h_ := RC.out
  rw [row_rep] at h_
  exact h_)
 clear RC hb7 f0_
 have RC := n_RC
 clear n_RC
 have f0_ : w6.cell? ⟨Br, 0, none⟩ = some (.slice (some ⟨b0, 0, none⟩) n c0) := blk_cell (RS.below HRS.out HB.out).blk 0
 go_wp2_with fail
 clear f0_
 go_loopw [28] (fun v28 wr => ∃ k : Nat, v28 = .int .i64 (k : Int) ∧ k ≤ n ∧ RP w wr b7 n c7 (g0 (TL T L) k) ∧ Below w.heap.size w wr) (fun v28 _ => n - (intOf v28).toNat)
 case atStart => exact ⟨0, rfl, Nat.zero_le _, RC.out, HB.out⟩
 case round =>
  clear RC HB
  obtain ⟨kk, rfl, hk, hR, hB⟩ := hrel
  have HB := hid hB
  have RC := hid hR
  clear hB hR
  by_cases hlt : kk < n
  ·obtain ⟨⟨sx, wd⟩, hx⟩ : ∃ x, L[kk]? = some x := ⟨_, List.getElem?_eq_getElem (by rw [← HN1.out.2.2]; exact hlt)⟩
   have HT := hid (show TL T L kk = T sx by unfold TL; rw [hx])
   have HLT := hid hlt
   obtain ⟨m0, m1, m2, m3, m4, m5, m6, m7⟩ := st_cells (RS.below HRS.out HB.out).r0 kk sx (by rw [List.getElem?_map, hx]; rfl)
   have hk0 : (0 : Int) ≤ (kk : Int) := by omega
   have hk1 : (kk : Int) < (n : Int) := by omega
   clear hx hlt
   go_upto_region 5 with (first | ((with_reducible refine gate_dst (N := 9) rfl ?_); refine box_event ?hg (N := 9) ?hd (cs := #[.int .i64 0, .int .i64 0, .int .i64 0, .int .i64 0, .int .i64 0, .int .i64 0, .int .i64 0, .int .i64 0]) (t := 30) ?hr ?_; (case hd => rfl); (case hg => rfl); (case hr => first | (go_simp; done) | (go_simp; rfl)); intro ob hg w8 hbox hb; have n_RC := hid (Kd.R_below (by (with_reducible repeat (first | apply Kd.R_alloc | apply Kd.R_drewN | apply Kd.R_drew)); exact RC.out) hb); have HGB := hid (by rw [hg]; exact (below_size (by repeat (first | (with_reducible first | exact HB.out | apply below_alloc | apply pw_below_drewN | apply below_drew1) | exact HB.out))) : w.heap.size ≤ ob); have n_HB := hid (below_step (by repeat (first | (with_reducible first | exact HB.out | apply below_alloc | apply pw_below_drewN | apply below_drew1) | exact HB.out)) hb); have BX := hid (hbox); clear HB RC; have HB := n_HB; have RC := n_RC; clear n_HB n_RC hg hb hbox; have z0_ : w8.cell? ⟨ob, 0, none⟩ = some (.int .i64 0) := blk_cell BX.out 0; have zf0_ := blk_frozen BX.out 0; have z1_ : w8.cell? ⟨ob, 1, none⟩ = some (.int .i64 0) := blk_cell BX.out 1; have zf1_ := blk_frozen BX.out 1; have z2_ : w8.cell? ⟨ob, 2, none⟩ = some (.int .i64 0) := blk_cell BX.out 2; have zf2_ := blk_frozen BX.out 2; have z3_ : w8.cell? ⟨ob, 3, none⟩ = some (.int .i64 0) := blk_cell BX.out 3; have zf3_ := blk_frozen BX.out 3; have z4_ : w8.cell? ⟨ob, 4, none⟩ = some (.int .i64 0) := blk_cell BX.out 4; have zf4_ := blk_frozen BX.out 4; have z5_ : w8.cell? ⟨ob, 5, none⟩ = some (.int .i64 0) := blk_cell BX.out 5; have zf5_ := blk_frozen BX.out 5; have z6_ : w8.cell? ⟨ob, 6, none⟩ = some (.int .i64 0) := blk_cell BX.out 6; have zf6_ := blk_frozen BX.out 6; have z7_ : w8.cell? ⟨ob, 7, none⟩ = some (.int .i64 0) := blk_cell BX.out 7; have zf7_ := blk_frozen BX.out 7))
   have n_BS := hid (blk_put (cs := #[.int .i64 sx.x, .int .i64 sx.y, .int .i64 sx.d.t, .int .i64 sx.d.n, .int .i64 sx.d.e, .int .i64 sx.d.s, .int .i64 sx.d.w, .int .i64 0]) (cs' := #[.int .i64 sx.x, .int .i64 sx.y, .int .i64 sx.d.t, .int .i64 sx.d.n, .int .i64 sx.d.e, .int .i64 sx.d.s, .int .i64 sx.d.w, .int .i64 sx.d.b]) (blk_put (cs := #[.int .i64 sx.x, .int .i64 sx.y, .int .i64 sx.d.t, .int .i64 sx.d.n, .int .i64 sx.d.e, .int .i64 sx.d.s, .int .i64 0, .int .i64 0]) (cs' := #[.int .i64 sx.x, .int .i64 sx.y, .int .i64 sx.d.t, .int .i64 sx.d.n, .int .i64 sx.d.e, .int .i64 sx.d.s, .int .i64 sx.d.w, .int .i64 0]) (blk_put (cs := #[.int .i64 sx.x, .int .i64 sx.y, .int .i64 sx.d.t, .int .i64 sx.d.n, .int .i64 sx.d.e, .int .i64 0, .int .i64 0, .int .i64 0]) (cs' := #[.int .i64 sx.x, .int .i64 sx.y, .int .i64 sx.d.t, .int .i64 sx.d.n, .int .i64 sx.d.e, .int .i64 sx.d.s, .int .i64 0, .int .i64 0]) (blk_put (cs := #[.int .i64 sx.x, .int .i64 sx.y, .int .i64 sx.d.t, .int .i64 sx.d.n, .int .i64 0, .int .i64 0, .int .i64 0, .int .i64 0]) (cs' := #[.int .i64 sx.x, .int .i64 sx.y, .int .i64 sx.d.t, .int .i64 sx.d.n, .int .i64 sx.d.e, .int .i64 0, .int .i64 0, .int .i64 0]) (blk_put (cs := #[.int .i64 sx.x, .int .i64 sx.y, .int .i64 sx.d.t, .int .i64 0, .int .i64 0, .int .i64 0, .int .i64 0, .int .i64 0]) (cs' := #[.int .i64 sx.x, .int .i64 sx.y, .int .i64 sx.d.t, .int .i64 sx.d.n, .int .i64 0, .int .i64 0, .int .i64 0, .int .i64 0]) (blk_put (cs := #[.int .i64 sx.x, .int .i64 sx.y, .int .i64 0, .int .i64 0, .int .i64 0, .int .i64 0, .int .i64 0, .int .i64 0]) (cs' := #[.int .i64 sx.x, .int .i64 sx.y, .int .i64 sx.d.t, .int .i64 0, .int .i64 0, .int .i64 0, .int .i64 0, .int .i64 0]) (blk_put (cs := #[.int .i64 sx.x, .int .i64 0, .int .i64 0, .int .i64 0, .int .i64 0, .int .i64 0, .int .i64 0, .int .i64 0]) (cs' := #[.int .i64 sx.x, .int .i64 sx.y, .int .i64 0, .int .i64 0, .int .i64 0, .int .i64 0, .int .i64 0, .int .i64 0]) (blk_put (cs := #[.int .i64 0, .int .i64 0, .int .i64 0, .int .i64 0, .int .i64 0, .int .i64 0, .int .i64 0, .int .i64 0]) (cs' := #[.int .i64 sx.x, .int .i64 0, .int .i64 0, .int .i64 0, .int .i64 0, .int .i64 0, .int .i64 0, .int .i64 0]) BX.out 0 _ rfl) 1 _ rfl) 2 _ rfl) 3 _ rfl) 4 _ rfl) 5 _ rfl) 6 _ rfl) 7 _ rfl)
   have n_RC := hid (Kd.R_mono (Kd.R_far (p := ⟨ob, 7, none⟩) (Kd.R_far (p := ⟨ob, 6, none⟩) (Kd.R_far (p := ⟨ob, 5, none⟩) (Kd.R_far (p := ⟨ob, 4, none⟩) (Kd.R_far (p := ⟨ob, 3, none⟩) (Kd.R_far (p := ⟨ob, 2, none⟩) (Kd.R_far (p := ⟨ob, 1, none⟩) (Kd.R_far (p := ⟨ob, 0, none⟩) (Kd.R_types RC.out BX.out (by decide)) (fun _ hk => hk.2) (.int .i64 sx.x)) (fun _ hk => hk.2) (.int .i64 sx.y)) (fun _ hk => hk.2) (.int .i64 sx.d.t)) (fun _ hk => hk.2) (.int .i64 sx.d.n)) (fun _ hk => hk.2) (.int .i64 sx.d.e)) (fun _ hk => hk.2) (.int .i64 sx.d.s)) (fun _ hk => hk.2) (.int .i64 sx.d.w)) (fun _ hk => hk.2) (.int .i64 sx.d.b)) (fun _ _ => trivial))
   have n_HB := hid (Below.setCell (p := ⟨ob, 7, none⟩) (Below.setCell (p := ⟨ob, 6, none⟩) (Below.setCell (p := ⟨ob, 5, none⟩) (Below.setCell (p := ⟨ob, 4, none⟩) (Below.setCell (p := ⟨ob, 3, none⟩) (Below.setCell (p := ⟨ob, 2, none⟩) (Below.setCell (p := ⟨ob, 1, none⟩) (Below.setCell (p := ⟨ob, 0, none⟩) HB.out HGB.out (.int .i64 sx.x)) HGB.out (.int .i64 sx.y)) HGB.out (.int .i64 sx.d.t)) HGB.out (.int .i64 sx.d.n)) HGB.out (.int .i64 sx.d.e)) HGB.out (.int .i64 sx.d.s)) HGB.out (.int .i64 sx.d.w)) HGB.out (.int .i64 sx.d.b))
   clear z0_ zf0_ z1_ zf1_ z2_ zf2_ z3_ zf3_ z4_ zf4_ z5_ zf5_ z6_ zf6_ z7_ zf7_ m0 m1 m2 m3 m4 m5 m6 m7 BX HB RC
   have BS := n_BS
   have HB := n_HB
   have RC := n_RC
   clear n_BS n_HB n_RC
   generalize World.setCell _ _ _ = w9 at BS RC HB ⊢
   have b0_ : w9.cell? ⟨ob, 0, none⟩ = some (.int .i64 sx.x) := blk_cell BS.out 0
   have b1_ : w9.cell? ⟨ob, 1, none⟩ = some (.int .i64 sx.y) := blk_cell BS.out 1
   have b2_ : w9.cell? ⟨ob, 2, none⟩ = some (.int .i64 sx.d.t) := blk_cell BS.out 2
   have b3_ : w9.cell? ⟨ob, 3, none⟩ = some (.int .i64 sx.d.n) := blk_cell BS.out 3
   have b4_ : w9.cell? ⟨ob, 4, none⟩ = some (.int .i64 sx.d.e) := blk_cell BS.out 4
   have b5_ : w9.cell? ⟨ob, 5, none⟩ = some (.int .i64 sx.d.s) := blk_cell BS.out 5
   have b6_ : w9.cell? ⟨ob, 6, none⟩ = some (.int .i64 sx.d.w) := blk_cell BS.out 6
   have b7_ : w9.cell? ⟨ob, 7, none⟩ = some (.int .i64 sx.d.b) := blk_cell BS.out 7
   obtain ⟨q, hq⟩ : ∃ q, q = T sx := ⟨_, rfl⟩
   have HI := hid (HIS.out sx w9 HB.out)
   rw [← hq] at HI HT
   clear hq
   go_wp2_with fail
   refine HI.out.mono ?_
   rintro e' w10 ⟨rfl, hb⟩
   have n_RC := hid (Kd.R_below RC.out hb)
   have n_HB := hid (below_then HB.out HB.out.size hb)
   clear hb HI BS RC HB b0_ b1_ b2_ b3_ b4_ b5_ b6_ b7_
   have RC := n_RC
   have HB := n_HB
   clear n_RC n_HB
   cases q with
   | true =>
    go_wp2_with fail
    go_roundw
    case rel => exact ⟨kk + 1, by go_num, HLT.out, by rw [g0_yes HT.out]; exact RC.out, HB.out⟩
    case measure =>
     have := HLT.out
     simp [intOf]
     omega
   | false =>
    have hrow := row_at (g0 (TL T L) kk) HLT.out
    obtain ⟨⟨p0_, p1_⟩, p2_, p3_⟩ := pr_cells RC.out kk _ hrow
    have hz2 : (g0 (TL T L) kk kk).2 = 0 := by simp [g0]
    have HP := hid (show RP w (w10.setCell ⟨b7, kk * 2, none⟩ (.int .i64 1099511627776)) b7 n c7 (g0 (TL T L) (kk + 1)) from by
     have h_ := (pr_put1 RC.out kk _ hrow 1099511627776).1
     rw [row_set, hz2, ← g0_no HT.out] at h_
     exact h_)
    clear hrow hz2
    go_upto_region 7 with fail
    have n_HB := hid (show Below w.heap.size w (w10.setCell ⟨b7, kk * 2, none⟩ (.int .i64 1099511627776)) from below_set HB.out HB7.out)
    clear RC HB p0_ p1_ p2_ p3_
    have HB := n_HB
    clear n_HB
    generalize World.setCell _ _ _ = w11 at HP HB ⊢
    go_wp2_with fail
    go_roundw
    case rel => exact ⟨kk + 1, by go_num, HLT.out, HP.out, HB.out⟩
    case measure =>
     have := HLT.out
     simp [intOf]
     omega
  ·obtain rfl : kk = n := by omega
   have n_RC := hid (show RP w wr b7 kk c7 (fun k => if TL T L k = true then (0, 0) else (Price.dear, 0)) from by
    have h_ : rowF kk (g0 (TL T L) kk) = rowF kk (fun k => if TL T L k = true then (0, 0) else (Price.dear, 0)) := row_congr fun k hk_ => by
     unfold g0
     cases h : TL T L k <;> simp [hk_, Price.dear]
    unfold RP
    rw [← h_]
    exact RC.out)
   clear RC
   have RC := n_RC
   have HI0 := hid (Price.inv_start (n := kk) (nx := nxL f L) (top := topL L) (T := TL T L))
   obtain ⟨gs, hgs⟩ : ∃ gs : Nat → Int × Int, gs = (fun k => if TL T L k = true then (0, 0) else (Price.dear, 0)) := ⟨_, rfl⟩
   rw [← hgs] at RC HI0
   have hge : ¬ ((kk : Int) < (kk : Int)) := by omega
   clear n_RC hgs hlt hk
   go_wp2_with fail
   clear hge
   go_loopg [10] (TT kk gs + 1) (fun gk v10 wr => ∃ (g : Nat → Int × Int) (ch : Bool), v10 = .bool ch ∧ gk = (if ch = true then TT kk g + 1 else 0) ∧ IV kk f T L g ∧ (ch = false → ∀ a, a < kk → ∀ d, d < 4 → FX f L g a d) ∧ RP w wr b7 kk c7 g ∧ Below w.heap.size w wr)
   case atStart => exact ⟨gs, true, rfl, rfl, HI0.out, (fun h => by cases h), RC.out, HB.out⟩
   case round =>
    clear RC HB HI0
    obtain ⟨g, ch, rfl, hgk, hI, hF, hR, hB⟩ := hrel
    have HB := hid hB
    have RC := hid hR
    have HI := hid hI
    have HF := hid hF
    have HGK := hid hgk
    clear hB hR hI hF hgk
    cases ch with
    | false =>
     go_wp2_with fail
     go_ret
     exact ⟨b7, c7, rfl, g, RC.out, HI.out, HF.out trivial, HB.out⟩
    | true =>
     have f0_ : wr.cell? ⟨Br, 0, none⟩ = some (.slice (some ⟨b0, 0, none⟩) kk c0) := blk_cell (RS.below HRS.out HB.out).blk 0
     clear HF
     go_wp2_with fail
     clear f0_
     go_loopw [10, 11] (fun v10 v11 wi => ∃ (m : Nat) (g2 : Nat → Int × Int) (c2 : Bool), v10 = .bool c2 ∧ v11 = .int .i64 ((m : Int) - 1) ∧ m ≤ kk ∧ IV kk f T L g2 ∧ (c2 = false → g2 = g ∧ ∀ a, m ≤ a → a < kk → ∀ d, d < 4 → FX f L g2 a d) ∧ (c2 = true → TT kk g2 < TT kk g) ∧ RP w wi b7 kk c7 g2 ∧ Below w.heap.size w wi) (fun _ v11 _ => (intOf v11 + 1).toNat)
     case atStart => exact ⟨kk, g, false, rfl, by go_num, Nat.le_refl _, HI.out, (fun _ => ⟨rfl, fun a h1 h2 => by omega⟩), (fun h => by cases h), RC.out, HB.out⟩
     case round =>
      clear RC HB HI
      obtain ⟨m, g2, c2, rfl, rfl, hm, hI, hF, hL, hR, hB⟩ := hrel
      have HB := hid hB
      have RC := hid hR
      have HI := hid hI
      have HF := hid (And.intro hF hL)
      clear hB hR hI hF hL
      cases m with
      | zero =>
       have hm1 : ((0 : Nat) : Int) - 1 = -1 := rfl
       rw [hm1]
       clear hm1
       go_wp2_with fail
       go_roundg (if c2 = true then TT kk g2 + 1 else 0)
       case rel => exact ⟨g2, c2, rfl, rfl, HI.out, (fun h a ha d hd4 => (HF.out.1 h).2 a (Nat.zero_le _) ha d hd4), RC.out, HB.out⟩
       case measure =>
        have h1 : gk = TT kk g + 1 := by simpa using HGK.out
        have h2 := HF.out.2
        cases c2 with
        | false => rw [if_neg (by decide)]; omega
        | true =>
         have := h2 rfl
         rw [if_pos rfl]
         omega
      | succ aa =>
       have hm1 : ((aa + 1 : Nat) : Int) - 1 = (aa : Int) := by omega
       rw [hm1]
       obtain ⟨⟨sx, wd⟩, hx⟩ : ∃ x, L[aa]? = some x := ⟨_, List.getElem?_eq_getElem (by have := HN1.out.2.2; omega)⟩
       have HX := hid hx
       have HA := hid (show aa < kk by omega)
       have ha0 : (0 : Int) ≤ (aa : Int) := by omega
       clear hm1 hx hm
       go_wp2_with fail
       go_loopw [10, 53] (fun v10 v53 wi => ∃ (ii : Nat) (g3 : Nat → Int × Int) (c3 : Bool), v10 = .bool c3 ∧ v53 = .int .i64 (ii : Int) ∧ ii ≤ 4 ∧ IV kk f T L g3 ∧ (c3 = false → g3 = g ∧ (∀ x, aa + 1 ≤ x → x < kk → ∀ d, d < 4 → FX f L g3 x d) ∧ ∀ d, d < ii → FX f L g3 aa d) ∧ (c3 = true → TT kk g3 < TT kk g) ∧ RP w wi b7 kk c7 g3 ∧ Below w.heap.size w wi) (fun _ v53 _ => 4 - (intOf v53).toNat)
       case atStart => exact ⟨0, g2, c2, rfl, rfl, by omega, HI.out, (fun h => ⟨(HF.out.1 h).1, (HF.out.1 h).2, fun d hd_ => by omega⟩), HF.out.2, RC.out, HB.out⟩
       case round =>
        clear RC HB HI HF
        obtain ⟨ii, g3, c3, rfl, rfl, hi, hI, hF, hL, hR, hB⟩ := hrel
        have HB := hid hB
        have RC := hid hR
        have HI := hid hI
        have HF := hid (And.intro hF hL)
        clear hB hR hI hF hL
        by_cases h4 : ii < 4
        ·obtain ⟨u, hu⟩ : ∃ u, u = moved sx ii := ⟨_, rfl⟩
         obtain ⟨cn, hcn⟩ : ∃ cn, cn = canF f sx ii := ⟨_, rfl⟩
         have HMV := hid (fun W hW => HROLL.out sx (List.mem_map.2 ⟨_, List.mem_of_getElem? HX.out, rfl⟩) ii h4 W hW)
         rw [← hu, ← hcn] at HMV
         have HU := hid (And.intro hu hcn)
         have HI4 := hid h4
         have hii : (ii : Int) < 4 := by omega
         clear hu hcn h4
         go_upto_region 17 with fail
         refine start_ (n := 17) (S := fun w' => True) (ds := []) #[ff, ff, ff, ff, ff, ff, ff, ff, ff, ff, ff, ff, ff, ff, ff, ff, ff] (by kernel_rfl) rfl rfl trivial (fun hHeld => ?_)
         refine with_tabW prs.tab17 prs.bits17 (fun HT_ HW_ => ?_)
         have n_HB := hid (below_drew HB.out)
         have n_RC := hid (Kd.R_drew RC.out)
         clear HB RC
         have HB := n_HB
         have RC := n_RC
         clear n_HB n_RC
         generalize World.drew _ = w17 at HB RC hHeld ⊢
         refine pure_ (i := 0) (N := some 57) (v := ?_) (a' := ?_) #[tt, ff, ff, ff, ff, ff, ff, ff, ff, ff, ff, ff, ff, ff, ff, ff, ff] rfl rfl (any_of HT_.out (by kernel_rfl)) (fun _ _ _ h => h) (Or.inl ⟨by rfl, ?_⟩) ?_ ?_
         rotate_left
         ·intro w'
          go_simp
          with_reducible rfl
         rotate_left
         ·simp only [Act.put, List.setIfInBounds_toArray, List.set_cons_zero, List.set_cons_succ, i64_w, i32_w]
          rfl
         refine pure_ (i := 1) (N := some 58) (v := ?_) (a' := ?_) #[tt, tt, ff, ff, ff, ff, ff, ff, ff, ff, ff, ff, ff, ff, ff, ff, ff] rfl rfl (any_of HT_.out (by kernel_rfl)) (fun _ _ _ h => h) (Or.inl ⟨by rfl, ?_⟩) ?_ ?_
         rotate_left
         ·intro w'
          go_simp
          with_reducible rfl
         rotate_left
         ·simp only [Act.put, List.setIfInBounds_toArray, List.set_cons_zero, List.set_cons_succ, i64_w, i32_w]
          rfl
         refine pure_ (i := 5) (N := some 62) (v := ?_) (a' := ?_) #[tt, tt, ff, ff, ff, tt, ff, ff, ff, ff, ff, ff, ff, ff, ff, ff, ff] rfl rfl (any_of HT_.out (by kernel_rfl)) (fun _ _ _ h => h) (Or.inl ⟨by rfl, ?_⟩) ?_ ?_
         rotate_left
         ·intro w'
          go_simp
          with_reducible rfl
         rotate_left
         ·simp only [Act.put, List.setIfInBounds_toArray, List.set_cons_zero, List.set_cons_succ, i64_w, i32_w]
          rfl
         refine pure_ (i := 8) (N := some 65) (v := ?_) (a' := ?_) #[tt, tt, ff, ff, ff, tt, ff, ff, tt, ff, ff, ff, ff, ff, ff, ff, ff] rfl rfl (any_of HT_.out (by kernel_rfl)) (fun _ _ _ h => h) (Or.inl ⟨by rfl, ?_⟩) ?_ ?_
         rotate_left
         ·intro w'
          go_simp
          with_reducible rfl
         rotate_left
         ·simp only [Act.put, List.setIfInBounds_toArray, List.set_cons_zero, List.set_cons_succ, i64_w, i32_w]
          rfl
         refine inv_at [2, 3, 4, 6, 7, 9, 10, 11, 12, 13, 14, 15, 16] (fun a0_ b a w' => ∃ (go_ : Nat) (m14_ : Value), a = putSel a0_ b [(2, 59, .pointer (some ⟨Br, 0, none⟩)), (3, 60, .pointer (some ⟨Br, 0, none⟩)), (4, 61, .slice (some ⟨b0, 0, none⟩) kk c0), (6, 63, .pointer (some ⟨b0, aa * 8, none⟩)), (7, 64, .agg #[.int .i64 sx.x, .int .i64 sx.y, .int .i64 sx.d.t, .int .i64 sx.d.n, .int .i64 sx.d.e, .int .i64 sx.d.s, .int .i64 sx.d.w, .int .i64 sx.d.b]), (9, 66, .int .u8 (byt ii)), (10, 67, .tuple #[.agg #[.int .i64 u.x, .int .i64 u.y, .int .i64 u.d.t, .int .i64 u.d.n, .int .i64 u.d.e, .int .i64 u.d.s, .int .i64 u.d.w, .int .i64 u.d.b], .bool cn]), (11, 56, .tuple #[.agg #[.int .i64 u.x, .int .i64 u.y, .int .i64 u.d.t, .int .i64 u.d.n, .int .i64 u.d.e, .int .i64 u.d.s, .int .i64 u.d.w, .int .i64 u.d.b], .bool cn]), (12, 68, .agg #[.int .i64 u.x, .int .i64 u.y, .int .i64 u.d.t, .int .i64 u.d.n, .int .i64 u.d.e, .int .i64 u.d.s, .int .i64 u.d.w, .int .i64 u.d.b]), (13, 69, .bool cn), (14, 13, m14_), (16, 14, .bool cn)] ∧ (Below w.heap.size w w') ∧ (RP w w' b7 kk c7 g3) ∧ (b 14 = true → b 15 = false → w'.heap[go_]? = some (.cells #[.int .i64 0, .int .i64 0, .int .i64 0, .int .i64 0, .int .i64 0, .int .i64 0, .int .i64 0, .int .i64 0] 30 (0, 0)) ∧ w.heap.size ≤ go_) ∧ (b 15 = true → w'.heap[go_]? = some (.cells (st8 u) 30 (0, 0)) ∧ w.heap.size ≤ go_) ∧ (b 14 = true → (m14_ : Value) = .pointer (some ⟨go_, 0, none⟩))) HT_.out HW_.out (by kernel_rfl) (by kernel_rfl) ?_ ?_ ?_
         ·exact ⟨0, .bool false, by simp only [putSel, Bool.false_eq_true, if_false], HB.out, RC.out, fun h_ => absurd h_ (by decide), fun h_ => absurd h_ (by decide), fun h_ => absurd h_ (by decide)⟩
         ·skip
          clear HB RC
          refine steps_cons ?_ ?_
          ·rintro b a w' ⟨go_, m14_, ha, Q_HB, Q_RC, Q_Z0, Q_BO, Q_X14_⟩ hb_ hon hoff
           refine ⟨_, rfl, fun K hK => ?_⟩
           have e58 : a.tmps[58]? = some (.pointer (some ⟨Br, 0, none⟩)) := by rw [ha]; exact (putSel_off rfl).trans rfl
           replace ha := am ha
           have HB := am Q_HB
           have RC := am Q_RC
           refine value_ (w1 := w') (v := .pointer (some ⟨Br, 0, none⟩)) (by rfl) rfl ?_ ?_
           ·go_simp
            (try simp only [i64_w])
            try rfl
           refine hK.out _ _ ⟨go_, m14_, (by rw [ha.out]; exact putSel_upk 0 hb_ rfl rfl rfl), Q_HB, Q_RC, Q_Z0, fun h0_ => absurd ((hoff 15 (by kernel_rfl)).symm.trans h0_) (by decide), Q_X14_⟩
          refine steps_cons ?_ ?_
          ·rintro b a w' ⟨go_, m14_, ha, Q_HB, Q_RC, Q_Z0, Q_BO, Q_X14_⟩ hb_ hon hoff
           refine ⟨_, rfl, fun K hK => ?_⟩
           have e59 : a.tmps[59]? = some (.pointer (some ⟨Br, 0, none⟩)) := by rw [ha]; exact putSel_on (e := (2, 59, .pointer (some ⟨Br, 0, none⟩))) 0 rfl rfl (hon 2 (by kernel_rfl)) rfl
           replace ha := am ha
           have HB := am Q_HB
           have RC := am Q_RC
           refine value_ (w1 := w') (v := .pointer (some ⟨Br, 0, none⟩)) (by rfl) rfl ?_ ?_
           ·go_simp
            (try simp only [i64_w])
            try rfl
           refine hK.out _ _ ⟨go_, m14_, (by rw [ha.out]; exact putSel_upk 1 hb_ rfl rfl rfl), Q_HB, Q_RC, Q_Z0, fun h0_ => absurd ((hoff 15 (by kernel_rfl)).symm.trans h0_) (by decide), Q_X14_⟩
          refine steps_cons ?_ ?_
          ·rintro b a w' ⟨go_, m14_, ha, Q_HB, Q_RC, Q_Z0, Q_BO, Q_X14_⟩ hb_ hon hoff
           refine ⟨_, rfl, fun K hK => ?_⟩
           have e60 : a.tmps[60]? = some (.pointer (some ⟨Br, 0, none⟩)) := by rw [ha]; exact putSel_on (e := (3, 60, .pointer (some ⟨Br, 0, none⟩))) 1 rfl rfl (hon 3 (by kernel_rfl)) rfl
           replace ha := am ha
           have HB := am Q_HB
           have RC := am Q_RC
           have hv_ : w'.cell? ⟨Br, 0, none⟩ = some (.slice (some ⟨b0, 0, none⟩) kk c0) := blk_cell (RS.below HRS.out HB.out).blk 0
           refine value_ (w1 := w') (v := .slice (some ⟨b0, 0, none⟩) kk c0) (by rfl) rfl ?_ ?_
           ·go_simp
            (try simp only [i64_w])
            try rfl
           refine hK.out _ _ ⟨go_, m14_, (by rw [ha.out]; exact putSel_upk 2 hb_ rfl rfl rfl), Q_HB, Q_RC, Q_Z0, fun h0_ => absurd ((hoff 15 (by kernel_rfl)).symm.trans h0_) (by decide), Q_X14_⟩
          refine steps_cons ?_ ?_
          ·rintro b a w' ⟨go_, m14_, ha, Q_HB, Q_RC, Q_Z0, Q_BO, Q_X14_⟩ hb_ hon hoff
           refine ⟨_, rfl, fun K hK => ?_⟩
           have e61 : a.tmps[61]? = some (.slice (some ⟨b0, 0, none⟩) kk c0) := by rw [ha]; exact putSel_on (e := (4, 61, .slice (some ⟨b0, 0, none⟩) kk c0)) 2 rfl rfl (hon 4 (by kernel_rfl)) rfl
           have e62 : a.tmps[62]? = some (.int .i64 (aa : Int)) := by rw [ha]; exact (putSel_off rfl).trans rfl
           replace ha := am ha
           have HB := am Q_HB
           have RC := am Q_RC
           have ha_ : (aa : Int) < (kk : Int) := by have h_ := HA.out; omega
           refine value_ (w1 := w') (v := .pointer (some ⟨b0, aa * 8, none⟩)) (by rfl) rfl ?_ ?_
           ·go_simp
            (try simp only [i64_w])
            try rfl
           refine hK.out _ _ ⟨go_, m14_, (by rw [ha.out]; exact putSel_upk 3 hb_ rfl rfl rfl), Q_HB, Q_RC, Q_Z0, fun h0_ => absurd ((hoff 15 (by kernel_rfl)).symm.trans h0_) (by decide), Q_X14_⟩
          refine steps_cons ?_ ?_
          ·rintro b a w' ⟨go_, m14_, ha, Q_HB, Q_RC, Q_Z0, Q_BO, Q_X14_⟩ hb_ hon hoff
           refine ⟨_, rfl, fun K hK => ?_⟩
           have e63 : a.tmps[63]? = some (.pointer (some ⟨b0, aa * 8, none⟩)) := by rw [ha]; exact putSel_on (e := (6, 63, .pointer (some ⟨b0, aa * 8, none⟩))) 3 rfl rfl (hon 6 (by kernel_rfl)) rfl
           replace ha := am ha
           have HB := am Q_HB
           have RC := am Q_RC
           obtain ⟨s0, s1, s2, s3, s4, s5, s6, s7⟩ := st_cells (RS.below HRS.out HB.out).r0 aa sx (by rw [List.getElem?_map, HX.out]; rfl)
           refine value_ (w1 := w') (v := .agg #[.int .i64 sx.x, .int .i64 sx.y, .int .i64 sx.d.t, .int .i64 sx.d.n, .int .i64 sx.d.e, .int .i64 sx.d.s, .int .i64 sx.d.w, .int .i64 sx.d.b]) (by rfl) rfl ?_ ?_
           ·go_simp
            (try simp only [i64_w])
            try rfl
           refine hK.out _ _ ⟨go_, m14_, (by rw [ha.out]; exact putSel_upk 4 hb_ rfl rfl rfl), Q_HB, Q_RC, Q_Z0, fun h0_ => absurd ((hoff 15 (by kernel_rfl)).symm.trans h0_) (by decide), Q_X14_⟩
          refine steps_cons ?_ ?_
          ·rintro b a w' ⟨go_, m14_, ha, Q_HB, Q_RC, Q_Z0, Q_BO, Q_X14_⟩ hb_ hon hoff
           refine ⟨_, rfl, fun K hK => ?_⟩
           have e65 : a.tmps[65]? = some (.int .i64 (ii : Int)) := by rw [ha]; exact (putSel_off rfl).trans rfl
           replace ha := am ha
           have HB := am Q_HB
           have RC := am Q_RC
           have hix_ := Reached.index_dir ii HI4.out
           refine value_ (w1 := w') (v := .int .u8 (byt ii)) (by rfl) rfl ?_ ?_
           ·go_simp
            (try simp only [i64_w])
            try rfl
           refine hK.out _ _ ⟨go_, m14_, (by rw [ha.out]; exact putSel_upk 5 hb_ rfl rfl rfl), Q_HB, Q_RC, Q_Z0, fun h0_ => absurd ((hoff 15 (by kernel_rfl)).symm.trans h0_) (by decide), Q_X14_⟩
          refine steps_cons ?_ ?_
          ·rintro b a w' ⟨go_, m14_, ha, Q_HB, Q_RC, Q_Z0, Q_BO, Q_X14_⟩ hb_ hon hoff
           refine ⟨_, rfl, fun K hK => ?_⟩
           have e57 : a.tmps[57]? = some (.slice (some ⟨gb, 0, none⟩) gn gc) := by rw [ha]; exact (putSel_off rfl).trans rfl
           have e64 : a.tmps[64]? = some (.agg #[.int .i64 sx.x, .int .i64 sx.y, .int .i64 sx.d.t, .int .i64 sx.d.n, .int .i64 sx.d.e, .int .i64 sx.d.s, .int .i64 sx.d.w, .int .i64 sx.d.b]) := by rw [ha]; exact putSel_on (e := (7, 64, .agg #[.int .i64 sx.x, .int .i64 sx.y, .int .i64 sx.d.t, .int .i64 sx.d.n, .int .i64 sx.d.e, .int .i64 sx.d.s, .int .i64 sx.d.w, .int .i64 sx.d.b])) 4 rfl rfl (hon 7 (by kernel_rfl)) rfl
           have e66 : a.tmps[66]? = some (.int .u8 (byt ii)) := by rw [ha]; exact putSel_on (e := (9, 66, .int .u8 (byt ii))) 5 rfl rfl (hon 9 (by kernel_rfl)) rfl
           replace ha := am ha
           have HB := am Q_HB
           have RC := am Q_RC
           refine call_ 19 #[.slice (some ⟨gb, 0, none⟩) gn gc, .agg #[.int .i64 sx.x, .int .i64 sx.y, .int .i64 sx.d.t, .int .i64 sx.d.n, .int .i64 sx.d.e, .int .i64 sx.d.s, .int .i64 sx.d.w, .int .i64 sx.d.b], .int .u8 (byt ii)] (by rfl) rfl ?_ ?_
           ·go_simp
            (try rfl)
           with_reducible refine (HMV.out w' HB.out).mono ?_
           rintro e' w1 ⟨rfl, hb⟩
           refine ⟨_, rfl, ?_⟩
           refine hK.out _ _ ⟨go_, m14_, (by rw [ha.out]; exact putSel_upk 6 hb_ rfl rfl rfl), below_then HB.out HB.out.size hb, Kd.R_below RC.out hb, fun h0_ h1_ => ⟨blk_below (Q_Z0 h0_ h1_).1 hb, (Q_Z0 h0_ h1_).2⟩, fun h0_ => absurd ((hoff 15 (by kernel_rfl)).symm.trans h0_) (by decide), Q_X14_⟩
          refine steps_cons ?_ ?_
          ·rintro b a w' ⟨go_, m14_, ha, Q_HB, Q_RC, Q_Z0, Q_BO, Q_X14_⟩ hb_ hon hoff
           refine ⟨_, rfl, fun K hK => ?_⟩
           have e67 : a.tmps[67]? = some (.tuple #[.agg #[.int .i64 u.x, .int .i64 u.y, .int .i64 u.d.t, .int .i64 u.d.n, .int .i64 u.d.e, .int .i64 u.d.s, .int .i64 u.d.w, .int .i64 u.d.b], .bool cn]) := by rw [ha]; exact putSel_on (e := (10, 67, .tuple #[.agg #[.int .i64 u.x, .int .i64 u.y, .int .i64 u.d.t, .int .i64 u.d.n, .int .i64 u.d.e, .int .i64 u.d.s, .int .i64 u.d.w, .int .i64 u.d.b], .bool cn])) 6 rfl rfl (hon 10 (by kernel_rfl)) rfl
           replace ha := am ha
           have HB := am Q_HB
           have RC := am Q_RC
           refine value_ (w1 := w') (v := .tuple #[.agg #[.int .i64 u.x, .int .i64 u.y, .int .i64 u.d.t, .int .i64 u.d.n, .int .i64 u.d.e, .int .i64 u.d.s, .int .i64 u.d.w, .int .i64 u.d.b], .bool cn]) (by rfl) rfl ?_ ?_
           ·go_simp
            (try simp only [i64_w])
            try rfl
           refine hK.out _ _ ⟨go_, m14_, (by rw [ha.out]; exact putSel_upk 7 hb_ rfl rfl rfl), Q_HB, Q_RC, Q_Z0, fun h0_ => absurd ((hoff 15 (by kernel_rfl)).symm.trans h0_) (by decide), Q_X14_⟩
          refine steps_cons ?_ ?_
          ·rintro b a w' ⟨go_, m14_, ha, Q_HB, Q_RC, Q_Z0, Q_BO, Q_X14_⟩ hb_ hon hoff
           refine ⟨_, rfl, fun K hK => ?_⟩
           have e56 : a.tmps[56]? = some (.tuple #[.agg #[.int .i64 u.x, .int .i64 u.y, .int .i64 u.d.t, .int .i64 u.d.n, .int .i64 u.d.e, .int .i64 u.d.s, .int .i64 u.d.w, .int .i64 u.d.b], .bool cn]) := by rw [ha]; exact putSel_on (e := (11, 56, .tuple #[.agg #[.int .i64 u.x, .int .i64 u.y, .int .i64 u.d.t, .int .i64 u.d.n, .int .i64 u.d.e, .int .i64 u.d.s, .int .i64 u.d.w, .int .i64 u.d.b], .bool cn])) 7 rfl rfl (hon 11 (by kernel_rfl)) rfl
           replace ha := am ha
           have HB := am Q_HB
           have RC := am Q_RC
           refine value_ (w1 := w') (v := .agg #[.int .i64 u.x, .int .i64 u.y, .int .i64 u.d.t, .int .i64 u.d.n, .int .i64 u.d.e, .int .i64 u.d.s, .int .i64 u.d.w, .int .i64 u.d.b]) (by rfl) rfl ?_ ?_
           ·go_simp
            (try simp only [i64_w])
            try rfl
           refine hK.out _ _ ⟨go_, m14_, (by rw [ha.out]; exact putSel_upk 8 hb_ rfl rfl rfl), Q_HB, Q_RC, Q_Z0, fun h0_ => absurd ((hoff 15 (by kernel_rfl)).symm.trans h0_) (by decide), Q_X14_⟩
          refine steps_cons ?_ ?_
          ·rintro b a w' ⟨go_, m14_, ha, Q_HB, Q_RC, Q_Z0, Q_BO, Q_X14_⟩ hb_ hon hoff
           refine ⟨_, rfl, fun K hK => ?_⟩
           have e56 : a.tmps[56]? = some (.tuple #[.agg #[.int .i64 u.x, .int .i64 u.y, .int .i64 u.d.t, .int .i64 u.d.n, .int .i64 u.d.e, .int .i64 u.d.s, .int .i64 u.d.w, .int .i64 u.d.b], .bool cn]) := by rw [ha]; exact putSel_on (e := (11, 56, .tuple #[.agg #[.int .i64 u.x, .int .i64 u.y, .int .i64 u.d.t, .int .i64 u.d.n, .int .i64 u.d.e, .int .i64 u.d.s, .int .i64 u.d.w, .int .i64 u.d.b], .bool cn])) 7 rfl rfl (hon 11 (by kernel_rfl)) rfl
           replace ha := am ha
           have HB := am Q_HB
           have RC := am Q_RC
           refine value_ (w1 := w') (v := .bool cn) (by rfl) rfl ?_ ?_
           ·go_simp
            (try simp only [i64_w])
            try rfl
           refine hK.out _ _ ⟨go_, m14_, (by rw [ha.out]; exact putSel_upk 9 hb_ rfl rfl rfl), Q_HB, Q_RC, Q_Z0, Q_BO, Q_X14_⟩
          refine steps_cons ?_ ?_
          ·rintro b a w' ⟨go_, m14_, ha, Q_HB, Q_RC, Q_Z0, Q_BO, Q_X14_⟩ hb_ hon hoff
           refine ⟨_, rfl, fun K hK => ?_⟩
           replace ha := am ha
           have HB := am Q_HB
           have RC := am Q_RC
           refine value_ (w1 := ?_) (v := ?_) (by rfl) rfl ?_ ?_
           rotate_left 2
           ·go_simp
            constructor
            ·rfl
            ·rfl
           refine hK.out _ _ ⟨w'.heap.size, (.pointer (some ⟨w'.heap.size, 0, none⟩)), (by rw [ha.out]; exact putSel_upk 10 hb_ rfl rfl rfl), below_alloc HB.out _, Kd.R_alloc RC.out _, fun _ _ => ⟨blk_new _ _, HB.out.size⟩, fun h0_ => absurd ((hoff 15 (by kernel_rfl)).symm.trans h0_) (by decide), fun _ => rfl⟩
          refine steps_cons ?_ ?_
          ·rintro b a w' ⟨go_, m14_, ha, Q_HB, Q_RC, Q_Z0, Q_BO, Q_X14_⟩ hb_ hon hoff
           refine ⟨_, rfl, fun K hK => ?_⟩
           have e13 : a.tmps[13]? = some (m14_) := by rw [ha]; exact putSel_on (e := (14, 13, m14_)) 10 rfl rfl (hon 14 (by kernel_rfl)) rfl
           rw [Q_X14_ (hon 14 (by kernel_rfl))] at e13
           have e68 : a.tmps[68]? = some (.agg #[.int .i64 u.x, .int .i64 u.y, .int .i64 u.d.t, .int .i64 u.d.n, .int .i64 u.d.e, .int .i64 u.d.s, .int .i64 u.d.w, .int .i64 u.d.b]) := by rw [ha]; exact putSel_on (e := (12, 68, .agg #[.int .i64 u.x, .int .i64 u.y, .int .i64 u.d.t, .int .i64 u.d.n, .int .i64 u.d.e, .int .i64 u.d.s, .int .i64 u.d.w, .int .i64 u.d.b])) 8 rfl rfl (hon 12 (by kernel_rfl)) rfl
           replace ha := am ha
           have HB := am Q_HB
           have RC := am Q_RC
           have Z0 := am (Q_Z0 (hon 14 (by kernel_rfl)) hb_)
           have z0 : w'.cell? ⟨go_, 0, none⟩ = some (.int .i64 0) := blk_cell Z0.out.1 0
           have z1 : w'.cell? ⟨go_, 1, none⟩ = some (.int .i64 0) := blk_cell Z0.out.1 1
           have z2 : w'.cell? ⟨go_, 2, none⟩ = some (.int .i64 0) := blk_cell Z0.out.1 2
           have z3 : w'.cell? ⟨go_, 3, none⟩ = some (.int .i64 0) := blk_cell Z0.out.1 3
           have z4 : w'.cell? ⟨go_, 4, none⟩ = some (.int .i64 0) := blk_cell Z0.out.1 4
           have z5 : w'.cell? ⟨go_, 5, none⟩ = some (.int .i64 0) := blk_cell Z0.out.1 5
           have z6 : w'.cell? ⟨go_, 6, none⟩ = some (.int .i64 0) := blk_cell Z0.out.1 6
           have z7 : w'.cell? ⟨go_, 7, none⟩ = some (.int .i64 0) := blk_cell Z0.out.1 7
           have zf0 := blk_frozen Z0.out.1 0
           have zf1 := blk_frozen Z0.out.1 1
           have zf2 := blk_frozen Z0.out.1 2
           have zf3 := blk_frozen Z0.out.1 3
           have zf4 := blk_frozen Z0.out.1 4
           have zf5 := blk_frozen Z0.out.1 5
           have zf6 := blk_frozen Z0.out.1 6
           have zf7 := blk_frozen Z0.out.1 7
           have hz2_ := Z0.out.2
           refine skip_ (w1 := ?_) (by rfl) rfl ?_ ?_
           rotate_left
           ·go_simp
            rfl
           refine hK.out _ _ ⟨go_, m14_, (by rw [ha.out]; exact putSel_none (v := undef) rfl), (below_set (below_set (below_set (below_set (below_set (below_set (below_set (below_set HB.out hz2_) hz2_) hz2_) hz2_) hz2_) hz2_) hz2_) hz2_), Kd.R_mono (Kd.R_far (p := ⟨go_, 7, none⟩) (Kd.R_far (p := ⟨go_, 6, none⟩) (Kd.R_far (p := ⟨go_, 5, none⟩) (Kd.R_far (p := ⟨go_, 4, none⟩) (Kd.R_far (p := ⟨go_, 3, none⟩) (Kd.R_far (p := ⟨go_, 2, none⟩) (Kd.R_far (p := ⟨go_, 1, none⟩) (Kd.R_far (p := ⟨go_, 0, none⟩) (Kd.R_types RC.out Z0.out.1 (by decide)) (fun _ hk => hk.2) _) (fun _ hk => hk.2) _) (fun _ hk => hk.2) _) (fun _ hk => hk.2) _) (fun _ hk => hk.2) _) (fun _ hk => hk.2) _) (fun _ hk => hk.2) _) (fun _ hk => hk.2) _) (fun _ _ => trivial), fun _ h1_ => absurd ((up_self b 15).symm.trans h1_) (by decide), fun _ => ⟨(blk_put (cs := #[.int .i64 u.x, .int .i64 u.y, .int .i64 u.d.t, .int .i64 u.d.n, .int .i64 u.d.e, .int .i64 u.d.s, .int .i64 u.d.w, .int .i64 0]) (blk_put (cs := #[.int .i64 u.x, .int .i64 u.y, .int .i64 u.d.t, .int .i64 u.d.n, .int .i64 u.d.e, .int .i64 u.d.s, .int .i64 0, .int .i64 0]) (blk_put (cs := #[.int .i64 u.x, .int .i64 u.y, .int .i64 u.d.t, .int .i64 u.d.n, .int .i64 u.d.e, .int .i64 0, .int .i64 0, .int .i64 0]) (blk_put (cs := #[.int .i64 u.x, .int .i64 u.y, .int .i64 u.d.t, .int .i64 u.d.n, .int .i64 0, .int .i64 0, .int .i64 0, .int .i64 0]) (blk_put (cs := #[.int .i64 u.x, .int .i64 u.y, .int .i64 u.d.t, .int .i64 0, .int .i64 0, .int .i64 0, .int .i64 0, .int .i64 0]) (blk_put (cs := #[.int .i64 u.x, .int .i64 u.y, .int .i64 0, .int .i64 0, .int .i64 0, .int .i64 0, .int .i64 0, .int .i64 0]) (blk_put (cs := #[.int .i64 u.x, .int .i64 0, .int .i64 0, .int .i64 0, .int .i64 0, .int .i64 0, .int .i64 0, .int .i64 0]) (blk_put (cs := #[.int .i64 0, .int .i64 0, .int .i64 0, .int .i64 0, .int .i64 0, .int .i64 0, .int .i64 0, .int .i64 0]) Z0.out.1 0 _ rfl) 1 _ rfl) 2 _ rfl) 3 _ rfl) 4 _ rfl) 5 _ rfl) 6 _ rfl) 7 _ rfl), hz2_⟩, Q_X14_⟩
          refine steps_cons ?_ ?_
          ·rintro b a w' ⟨go_, m14_, ha, Q_HB, Q_RC, Q_Z0, Q_BO, Q_X14_⟩ hb_ hon hoff
           refine ⟨_, rfl, fun K hK => ?_⟩
           have e69 : a.tmps[69]? = some (.bool cn) := by rw [ha]; exact putSel_on (e := (13, 69, .bool cn)) 9 rfl rfl (hon 13 (by kernel_rfl)) rfl
           replace ha := am ha
           have HB := am Q_HB
           have RC := am Q_RC
           have BO := am (Q_BO (hon 15 (by kernel_rfl)))
           refine value_ (w1 := w') (v := .bool cn) (by rfl) rfl ?_ ?_
           ·go_simp
            (try simp only [i64_w])
            try rfl
           refine hK.out _ _ ⟨go_, m14_, (by rw [ha.out]; exact putSel_upk 11 hb_ rfl rfl rfl), Q_HB, Q_RC, fun _ h1_ => absurd ((hon 15 (by kernel_rfl)).symm.trans h1_) (by decide), Q_BO, Q_X14_⟩
          exact steps_nil
         ·rintro b a w' hall ⟨go_, m14_, ha, Q_HB, Q_RC, Q_Z0, Q_BO, Q_X14_⟩
          clear HB RC
          have hb2_ := hall 2 (by kernel_rfl)
          have hb3_ := hall 3 (by kernel_rfl)
          have hb4_ := hall 4 (by kernel_rfl)
          have hb6_ := hall 6 (by kernel_rfl)
          have hb7_ := hall 7 (by kernel_rfl)
          have hb9_ := hall 9 (by kernel_rfl)
          have hb10_ := hall 10 (by kernel_rfl)
          have hb11_ := hall 11 (by kernel_rfl)
          have hb12_ := hall 12 (by kernel_rfl)
          have hb13_ := hall 13 (by kernel_rfl)
          have hb14_ := hall 14 (by kernel_rfl)
          have hb15_ := hall 15 (by kernel_rfl)
          have hb16_ := hall 16 (by kernel_rfl)
          subst ha
          obtain rfl := Q_X14_ hb14_
          simp only [putSel, hb2_, hb3_, hb4_, hb6_, hb7_, hb9_, hb10_, hb11_, hb12_, hb13_, hb14_, hb15_, hb16_, if_true, Act.put, List.setIfInBounds_toArray, List.set_cons_zero, List.set_cons_succ]
          have HB := am Q_HB
          clear Q_HB
          have RC := am Q_RC
          clear Q_RC
          clear Q_Z0
          have BO := am (Q_BO hb15_)
          clear Q_BO
          clear hall hb2_ hb3_ hb4_ hb6_ hb7_ hb9_ hb10_ hb11_ hb12_ hb13_ hb14_ hb15_ hb16_
          cases cn with
          | false =>
           have HNX := hid (nx_no HX.out HU.out.2.symm)
           go_wp2_with fail
           go_roundw
           case rel => exact ⟨ii + 1, g3, c3, rfl, by go_num, HI4.out, HI.out, (fun h => ⟨(HF.out.1 h).1, (HF.out.1 h).2.1, fun d hd_ => by
            by_cases e : d = ii
            ·subst e
             exact fun j hj => by rw [HNX.out] at hj; cases hj
            ·exact (HF.out.1 h).2.2 d (by omega)⟩), HF.out.2, RC.out, HB.out⟩
           case measure =>
            have := HI4.out
            simp [intOf]
            omega
          | true =>
           obtain ⟨pp, y, hpl, hy, hyu, hpn⟩ := goes HD.out HX.out HI4.out HU.out.2.symm
           have HNX := hid (nx_yes HX.out HU.out.2.symm hpl)
           have hpk : pp < kk := by have := HN1.out.2.2; omega
           have HPL := hid (show ((Maps.place u 0 (L.map (·.1))).map valN).getD (.int .i64 0) = .int .i64 (pp : Int) by rw [HU.out.1, hpl]; rfl)
           have HPN := hid (show (pp : Int) < (kk : Int) by omega)
           have HTOP := hid (show topL L pp = u.d.t by unfold topL; rw [hy]; show y.1.d.t = _; rw [hyu, HU.out.1])
           have hb_ := Price.inv_nums HG.out HI.out hpk
           have ht_ := HG.out.top pp hpk
           rw [HTOP.out] at ht_
           obtain ⟨lc, lr, hlv⟩ : ∃ lc lr, g3 pp = (lc, lr) := ⟨_, _, rfl⟩
           rw [hlv] at hb_
           unfold Price.dear at hb_
           simp only at hb_
           have HLV := hid hlv
           have HW := hid (show IntKind.i64.wrap (lc + u.d.t) = lc + u.d.t ∧ IntKind.i64.wrap (lr + 1) = lr + 1 by rw [IntWalk.i64_in _ (by omega), IntWalk.i64_in _ (by omega)]; exact ⟨rfl, rfl⟩)
           have HPK := hid hpk
           obtain ⟨oc, or_, hov⟩ : ∃ oc or_, g3 aa = (oc, or_) := ⟨_, _, rfl⟩
           have HOV := hid hov
           clear hpl hy hyu hpn hb_ ht_ hlv hpk hov
           go_upto_region 19 with fail
           refine start_ (n := 11) (S := fun w' => True) (ds := []) #[ff, ff, ff, ff, ff, ff, ff, ff, ff, ff, ff] (by kernel_rfl) rfl rfl trivial (fun hHeld => ?_)
           refine with_tabW prs.tab19 prs.bits19 (fun HT_ HW_ => ?_)
           have n_HB := hid (below_drew HB.out)
           have n_RC := hid (Kd.R_drew RC.out)
           have n_BO := hid (And.intro (blk_drew BO.out.1) BO.out.2)
           clear HB RC BO
           have HB := n_HB
           have RC := n_RC
           have BO := n_BO
           clear n_HB n_RC n_BO
           generalize World.drew _ = w19 at HB RC BO hHeld ⊢
           refine pure_ (i := 0) (N := some 72) (v := ?_) (a' := ?_) #[tt, ff, ff, ff, ff, ff, ff, ff, ff, ff, ff] rfl rfl (any_of HT_.out (by kernel_rfl)) (fun _ _ _ h => h) (Or.inl ⟨by rfl, ?_⟩) ?_ ?_
           rotate_left
           ·intro w'
            go_simp
            with_reducible rfl
           rotate_left
           ·simp only [Act.put, List.setIfInBounds_toArray, List.set_cons_zero, List.set_cons_succ, i64_w, i32_w]
            rfl
           refine pure_ (i := 1) (N := some 73) (v := ?_) (a' := ?_) #[tt, tt, ff, ff, ff, ff, ff, ff, ff, ff, ff] rfl rfl (any_of HT_.out (by kernel_rfl)) (fun _ _ _ h => h) (Or.inl ⟨by rfl, ?_⟩) ?_ ?_
           rotate_left
           ·intro w'
            go_simp
            with_reducible rfl
           rotate_left
           ·simp only [Act.put, List.setIfInBounds_toArray, List.set_cons_zero, List.set_cons_succ, i64_w, i32_w]
            rfl
           refine inv_at [2, 3, 4, 5, 6, 7, 8, 9, 10] (fun a0_ b a w' => ∃ (gl_ : Nat) (m9_ : Value), a = putSel a0_ b [(2, 74, .pointer (some ⟨Br, 0, none⟩)), (3, 75, .pointer (some ⟨Br, 4, none⟩)), (4, 76, .map (some M)), (5, 77, .agg #[.int .i64 u.x, .int .i64 u.y, .int .i64 u.d.t, .int .i64 u.d.n, .int .i64 u.d.e, .int .i64 u.d.s, .int .i64 u.d.w, .int .i64 u.d.b]), (6, 78, .int .i64 (pp : Int)), (7, 79, .pointer (some ⟨b7, pp * 2, none⟩)), (8, 80, .agg #[.int .i64 lc, .int .i64 lr]), (9, 15, m9_)] ∧ (Below w.heap.size w w') ∧ (RP w w' b7 kk c7 g3) ∧ (w'.heap[go_]? = some (.cells (st8 u) 30 (0, 0)) ∧ w.heap.size ≤ go_) ∧ (b 9 = true → b 10 = false → w'.heap[gl_]? = some (.cells #[.int .i64 0, .int .i64 0] 60 (0, 0)) ∧ w.heap.size ≤ gl_ ∧ b7 < gl_) ∧ (b 10 = true → w'.heap[gl_]? = some (.cells #[.int .i64 lc, .int .i64 lr] 60 (0, 0)) ∧ w.heap.size ≤ gl_) ∧ (b 9 = true → (m9_ : Value) = .pointer (some ⟨gl_, 0, none⟩))) HT_.out HW_.out (by kernel_rfl) (by kernel_rfl) ?_ ?_ ?_
           ·exact ⟨0, .bool false, by simp only [putSel, Bool.false_eq_true, if_false], HB.out, RC.out, BO.out, fun h_ => absurd h_ (by decide), fun h_ => absurd h_ (by decide), fun h_ => absurd h_ (by decide)⟩
           ·skip
            clear BO HB RC
            refine steps_cons ?_ ?_
            ·rintro b a w' ⟨gl_, m9_, ha, Q_HB, Q_RC, Q_BO, Q_Z0, Q_BL, Q_X9_⟩ hb_ hon hoff
             refine ⟨_, rfl, fun K hK => ?_⟩
             have e73 : a.tmps[73]? = some (.pointer (some ⟨Br, 0, none⟩)) := by rw [ha]; exact (putSel_off rfl).trans rfl
             replace ha := am ha
             have HB := am Q_HB
             have RC := am Q_RC
             have BO := am Q_BO
             refine value_ (w1 := w') (v := .pointer (some ⟨Br, 0, none⟩)) (by rfl) rfl ?_ ?_
             ·go_simp
              (try simp only [i64_w])
              try rfl
             refine hK.out _ _ ⟨gl_, m9_, (by rw [ha.out]; exact putSel_upk 0 hb_ rfl rfl rfl), Q_HB, Q_RC, Q_BO, Q_Z0, fun h0_ => absurd ((hoff 10 (by kernel_rfl)).symm.trans h0_) (by decide), Q_X9_⟩
            refine steps_cons ?_ ?_
            ·rintro b a w' ⟨gl_, m9_, ha, Q_HB, Q_RC, Q_BO, Q_Z0, Q_BL, Q_X9_⟩ hb_ hon hoff
             refine ⟨_, rfl, fun K hK => ?_⟩
             have e74 : a.tmps[74]? = some (.pointer (some ⟨Br, 0, none⟩)) := by rw [ha]; exact putSel_on (e := (2, 74, .pointer (some ⟨Br, 0, none⟩))) 0 rfl rfl (hon 2 (by kernel_rfl)) rfl
             replace ha := am ha
             have HB := am Q_HB
             have RC := am Q_RC
             have BO := am Q_BO
             refine value_ (w1 := w') (v := .pointer (some ⟨Br, 4, none⟩)) (by rfl) rfl ?_ ?_
             ·go_simp
              (try simp only [i64_w])
              try rfl
             refine hK.out _ _ ⟨gl_, m9_, (by rw [ha.out]; exact putSel_upk 1 hb_ rfl rfl rfl), Q_HB, Q_RC, Q_BO, Q_Z0, fun h0_ => absurd ((hoff 10 (by kernel_rfl)).symm.trans h0_) (by decide), Q_X9_⟩
            refine steps_cons ?_ ?_
            ·rintro b a w' ⟨gl_, m9_, ha, Q_HB, Q_RC, Q_BO, Q_Z0, Q_BL, Q_X9_⟩ hb_ hon hoff
             refine ⟨_, rfl, fun K hK => ?_⟩
             have e75 : a.tmps[75]? = some (.pointer (some ⟨Br, 4, none⟩)) := by rw [ha]; exact putSel_on (e := (3, 75, .pointer (some ⟨Br, 4, none⟩))) 1 rfl rfl (hon 3 (by kernel_rfl)) rfl
             replace ha := am ha
             have HB := am Q_HB
             have RC := am Q_RC
             have BO := am Q_BO
             have hv_ : w'.cell? ⟨Br, 4, none⟩ = some (.map (some M)) := blk_cell (RS.below HRS.out HB.out).blk 4
             refine value_ (w1 := w') (v := .map (some M)) (by rfl) rfl ?_ ?_
             ·go_simp
              (try simp only [i64_w])
              try rfl
             refine hK.out _ _ ⟨gl_, m9_, (by rw [ha.out]; exact putSel_upk 2 hb_ rfl rfl rfl), Q_HB, Q_RC, Q_BO, Q_Z0, fun h0_ => absurd ((hoff 10 (by kernel_rfl)).symm.trans h0_) (by decide), Q_X9_⟩
            refine steps_cons ?_ ?_
            ·rintro b a w' ⟨gl_, m9_, ha, Q_HB, Q_RC, Q_BO, Q_Z0, Q_BL, Q_X9_⟩ hb_ hon hoff
             refine ⟨_, rfl, fun K hK => ?_⟩
             have e13 : a.tmps[13]? = some (.pointer (some ⟨go_, 0, none⟩)) := by rw [ha]; exact (putSel_off rfl).trans rfl
             replace ha := am ha
             have HB := am Q_HB
             have RC := am Q_RC
             have BO := am Q_BO
             have o0 : w'.cell? ⟨go_, 0, none⟩ = some (.int .i64 u.x) := blk_cell BO.out.1 0
             have o1 : w'.cell? ⟨go_, 1, none⟩ = some (.int .i64 u.y) := blk_cell BO.out.1 1
             have o2 : w'.cell? ⟨go_, 2, none⟩ = some (.int .i64 u.d.t) := blk_cell BO.out.1 2
             have o3 : w'.cell? ⟨go_, 3, none⟩ = some (.int .i64 u.d.n) := blk_cell BO.out.1 3
             have o4 : w'.cell? ⟨go_, 4, none⟩ = some (.int .i64 u.d.e) := blk_cell BO.out.1 4
             have o5 : w'.cell? ⟨go_, 5, none⟩ = some (.int .i64 u.d.s) := blk_cell BO.out.1 5
             have o6 : w'.cell? ⟨go_, 6, none⟩ = some (.int .i64 u.d.w) := blk_cell BO.out.1 6
             have o7 : w'.cell? ⟨go_, 7, none⟩ = some (.int .i64 u.d.b) := blk_cell BO.out.1 7
             refine value_ (w1 := w') (v := .agg #[.int .i64 u.x, .int .i64 u.y, .int .i64 u.d.t, .int .i64 u.d.n, .int .i64 u.d.e, .int .i64 u.d.s, .int .i64 u.d.w, .int .i64 u.d.b]) (by rfl) rfl ?_ ?_
             ·go_simp
              (try simp only [i64_w])
              try rfl
             refine hK.out _ _ ⟨gl_, m9_, (by rw [ha.out]; exact putSel_upk 3 hb_ rfl rfl rfl), Q_HB, Q_RC, Q_BO, Q_Z0, fun h0_ => absurd ((hoff 10 (by kernel_rfl)).symm.trans h0_) (by decide), Q_X9_⟩
            refine steps_cons ?_ ?_
            ·rintro b a w' ⟨gl_, m9_, ha, Q_HB, Q_RC, Q_BO, Q_Z0, Q_BL, Q_X9_⟩ hb_ hon hoff
             refine ⟨_, rfl, fun K hK => ?_⟩
             have e76 : a.tmps[76]? = some (.map (some M)) := by rw [ha]; exact putSel_on (e := (4, 76, .map (some M))) 2 rfl rfl (hon 4 (by kernel_rfl)) rfl
             have e77 : a.tmps[77]? = some (.agg #[.int .i64 u.x, .int .i64 u.y, .int .i64 u.d.t, .int .i64 u.d.n, .int .i64 u.d.e, .int .i64 u.d.s, .int .i64 u.d.w, .int .i64 u.d.b]) := by rw [ha]; exact putSel_on (e := (5, 77, .agg #[.int .i64 u.x, .int .i64 u.y, .int .i64 u.d.t, .int .i64 u.d.n, .int .i64 u.d.e, .int .i64 u.d.s, .int .i64 u.d.w, .int .i64 u.d.b])) 3 rfl rfl (hon 5 (by kernel_rfl)) rfl
             replace ha := am ha
             have HB := am Q_HB
             have RC := am Q_RC
             have BO := am Q_BO
             have hlk_ := look_run (val := valN) fits Tryd.underlying63 (Reached.zeroI w') (RS.below HRS.out HB.out).map u false
             rw [show encSt u = _ from rfl, if_neg (by decide), HPL.out] at hlk_
             refine value_ (w1 := w') (v := .int .i64 (pp : Int)) (by rfl) rfl ?_ ?_
             ·go_simp
              (try simp only [i64_w])
              try rfl
             refine hK.out _ _ ⟨gl_, m9_, (by rw [ha.out]; exact putSel_upk 4 hb_ rfl rfl rfl), Q_HB, Q_RC, Q_BO, Q_Z0, fun h0_ => absurd ((hoff 10 (by kernel_rfl)).symm.trans h0_) (by decide), Q_X9_⟩
            refine steps_cons ?_ ?_
            ·rintro b a w' ⟨gl_, m9_, ha, Q_HB, Q_RC, Q_BO, Q_Z0, Q_BL, Q_X9_⟩ hb_ hon hoff
             refine ⟨_, rfl, fun K hK => ?_⟩
             have e72 : a.tmps[72]? = some (.slice (some ⟨b7, 0, none⟩) kk c7) := by rw [ha]; exact (putSel_off rfl).trans rfl
             have e78 : a.tmps[78]? = some (.int .i64 (pp : Int)) := by rw [ha]; exact putSel_on (e := (6, 78, .int .i64 (pp : Int))) 4 rfl rfl (hon 6 (by kernel_rfl)) rfl
             replace ha := am ha
             have HB := am Q_HB
             have RC := am Q_RC
             have BO := am Q_BO
             have hp_ : (pp : Int) < (kk : Int) := HPN.out
             have hp0_ : (0 : Int) ≤ (pp : Int) := by omega
             refine value_ (w1 := w') (v := .pointer (some ⟨b7, pp * 2, none⟩)) (by rfl) rfl ?_ ?_
             ·go_simp
              (try simp only [i64_w])
              try rfl
             refine hK.out _ _ ⟨gl_, m9_, (by rw [ha.out]; exact putSel_upk 5 hb_ rfl rfl rfl), Q_HB, Q_RC, Q_BO, Q_Z0, fun h0_ => absurd ((hoff 10 (by kernel_rfl)).symm.trans h0_) (by decide), Q_X9_⟩
            refine steps_cons ?_ ?_
            ·rintro b a w' ⟨gl_, m9_, ha, Q_HB, Q_RC, Q_BO, Q_Z0, Q_BL, Q_X9_⟩ hb_ hon hoff
             refine ⟨_, rfl, fun K hK => ?_⟩
             have e79 : a.tmps[79]? = some (.pointer (some ⟨b7, pp * 2, none⟩)) := by rw [ha]; exact putSel_on (e := (7, 79, .pointer (some ⟨b7, pp * 2, none⟩))) 5 rfl rfl (hon 7 (by kernel_rfl)) rfl
             replace ha := am ha
             have HB := am Q_HB
             have RC := am Q_RC
             have BO := am Q_BO
             obtain ⟨⟨l0_, l1_⟩, _, _⟩ := pr_cells RC.out pp (lc, lr) (by rw [← HLV.out]; exact row_at g3 HPK.out)
             simp only at l0_ l1_
             refine value_ (w1 := w') (v := .agg #[.int .i64 lc, .int .i64 lr]) (by rfl) rfl ?_ ?_
             ·go_simp
              (try simp only [i64_w])
              try rfl
             refine hK.out _ _ ⟨gl_, m9_, (by rw [ha.out]; exact putSel_upk 6 hb_ rfl rfl rfl), Q_HB, Q_RC, Q_BO, Q_Z0, fun h0_ => absurd ((hoff 10 (by kernel_rfl)).symm.trans h0_) (by decide), Q_X9_⟩
            refine steps_cons ?_ ?_
            ·rintro b a w' ⟨gl_, m9_, ha, Q_HB, Q_RC, Q_BO, Q_Z0, Q_BL, Q_X9_⟩ hb_ hon hoff
             refine ⟨_, rfl, fun K hK => ?_⟩
             replace ha := am ha
             have HB := am Q_HB
             have RC := am Q_RC
             have BO := am Q_BO
             refine value_ (w1 := ?_) (v := ?_) (by rfl) rfl ?_ ?_
             rotate_left 2
             ·go_simp
              constructor
              ·rfl
              ·rfl
             refine hK.out _ _ ⟨w'.heap.size, (.pointer (some ⟨w'.heap.size, 0, none⟩)), (by rw [ha.out]; exact putSel_upk 7 hb_ rfl rfl rfl), below_alloc HB.out _, Kd.R_alloc RC.out _, ⟨blk_alloc BO.out.1 _, BO.out.2⟩, fun _ _ => ⟨blk_new _ _, HB.out.size, Kd.R_lt RC.out b7 rfl⟩, fun h0_ => absurd ((hoff 10 (by kernel_rfl)).symm.trans h0_) (by decide), fun _ => rfl⟩
            refine steps_cons ?_ ?_
            ·rintro b a w' ⟨gl_, m9_, ha, Q_HB, Q_RC, Q_BO, Q_Z0, Q_BL, Q_X9_⟩ hb_ hon hoff
             refine ⟨_, rfl, fun K hK => ?_⟩
             have e15 : a.tmps[15]? = some (m9_) := by rw [ha]; exact putSel_on (e := (9, 15, m9_)) 7 rfl rfl (hon 9 (by kernel_rfl)) rfl
             rw [Q_X9_ (hon 9 (by kernel_rfl))] at e15
             have e80 : a.tmps[80]? = some (.agg #[.int .i64 lc, .int .i64 lr]) := by rw [ha]; exact putSel_on (e := (8, 80, .agg #[.int .i64 lc, .int .i64 lr])) 6 rfl rfl (hon 8 (by kernel_rfl)) rfl
             replace ha := am ha
             have HB := am Q_HB
             have RC := am Q_RC
             have BO := am Q_BO
             have Z0 := am (Q_Z0 (hon 9 (by kernel_rfl)) hb_)
             have z0 : w'.cell? ⟨gl_, 0, none⟩ = some (.int .i64 0) := blk_cell Z0.out.1 0
             have z1 : w'.cell? ⟨gl_, 1, none⟩ = some (.int .i64 0) := blk_cell Z0.out.1 1
             have zf0 := blk_frozen Z0.out.1 0
             have zf1 := blk_frozen Z0.out.1 1
             have hz2_ := Z0.out.2
             have hnO_ : go_ ≠ gl_ := fun e_ => by have h1_ := BO.out.1; rw [e_, Z0.out.1] at h1_; simp at h1_
             refine skip_ (w1 := ?_) (by rfl) rfl ?_ ?_
             rotate_left
             ·go_simp
              rfl
             refine hK.out _ _ ⟨gl_, m9_, (by rw [ha.out]; exact putSel_none (v := undef) rfl), (below_set (below_set HB.out hz2_.1) hz2_.1), Kd.R_mono (Kd.R_far (p := ⟨gl_, 1, none⟩) (Kd.R_far (p := ⟨gl_, 0, none⟩) (Kd.R_flat (ok' := fun k_ => True ∧ k_ ≠ gl_) (fun h_ => h_) RC.out (fun k_ hk_ _ => ⟨trivial, by have h2_ : b7 = k_ := (by simpa [Value.ownBlock] using hk_); omega⟩)) (fun _ hk => hk.2) _) (fun _ hk => hk.2) _) (fun _ _ => trivial), ⟨(blk_far (blk_far BO.out.1 hnO_ _) hnO_ _), BO.out.2⟩, fun _ h1_ => absurd ((up_self b 10).symm.trans h1_) (by decide), fun _ => ⟨(blk_put (cs := #[.int .i64 lc, .int .i64 0]) (blk_put (cs := #[.int .i64 0, .int .i64 0]) Z0.out.1 0 _ rfl) 1 _ rfl), hz2_.1⟩, Q_X9_⟩
            exact steps_nil
           ·rintro b a w' hall ⟨gl_, m9_, ha, Q_HB, Q_RC, Q_BO, Q_Z0, Q_BL, Q_X9_⟩
            clear BO HB RC
            have hb2_ := hall 2 (by kernel_rfl)
            have hb3_ := hall 3 (by kernel_rfl)
            have hb4_ := hall 4 (by kernel_rfl)
            have hb5_ := hall 5 (by kernel_rfl)
            have hb6_ := hall 6 (by kernel_rfl)
            have hb7_ := hall 7 (by kernel_rfl)
            have hb8_ := hall 8 (by kernel_rfl)
            have hb9_ := hall 9 (by kernel_rfl)
            have hb10_ := hall 10 (by kernel_rfl)
            subst ha
            obtain rfl := Q_X9_ hb9_
            simp only [putSel, hb2_, hb3_, hb4_, hb5_, hb6_, hb7_, hb8_, hb9_, hb10_, if_true, Act.put, List.setIfInBounds_toArray, List.set_cons_zero, List.set_cons_succ]
            have HB := am Q_HB
            clear Q_HB
            have RC := am Q_RC
            clear Q_RC
            have BO := am Q_BO
            clear Q_BO
            clear Q_Z0
            have BL := am (Q_BL hb10_)
            clear Q_BL
            clear hall hb2_ hb3_ hb4_ hb5_ hb6_ hb7_ hb8_ hb9_ hb10_
            have e0_ : w'.cell? ⟨gl_, 0, none⟩ = some (.int .i64 lc) := blk_cell BL.out.1 0
            have e1_ : w'.cell? ⟨gl_, 1, none⟩ = some (.int .i64 lr) := blk_cell BL.out.1 1
            have e2_ : w'.cell? ⟨go_, 2, none⟩ = some (.int .i64 u.d.t) := blk_cell BO.out.1 2
            have hw1_ := HW.out.1
            have hw2_ := HW.out.2
            go_upto_region 21 with (first | ((with_reducible refine gate_dst (N := 16) rfl ?_); refine box_event ?hg (N := 16) ?hd (cs := #[.int .i64 0, .int .i64 0]) (t := 60) ?hr ?_; (case hd => rfl); (case hg => rfl); (case hr => first | (go_simp; done) | (go_simp; rfl)); intro gw_ hg w20 hbox hb; have n_RC := hid (Kd.R_below (by (with_reducible repeat (first | apply Kd.R_alloc | apply Kd.R_drewN | apply Kd.R_drew)); exact RC.out) hb); have n_BL := hid (And.intro (blk_below (by (with_reducible repeat (first | refine blk_drewN ?_ _ | refine blk_drew ?_ | refine blk_alloc ?_ _)); exact BL.out.1) hb) BL.out.2); have HGB := hid (by rw [hg]; exact (below_size (by repeat (first | (with_reducible first | exact HB.out | apply below_alloc | apply pw_below_drewN | apply below_drew1) | exact HB.out))) : w.heap.size ≤ gw_); have HG7 := hid (show b7 < gw_ by rw [hg]; exact Kd.R_lt (by (with_reducible repeat (first | apply Kd.R_alloc | apply Kd.R_drewN | apply Kd.R_drew)); exact RC.out) b7 rfl); have HGL := hid (show gl_ ≠ gw_ by rw [hg]; exact Nat.ne_of_lt (blk_lt (by (with_reducible repeat (first | refine blk_drewN ?_ _ | refine blk_drew ?_ | refine blk_alloc ?_ _)); exact BL.out.1))); have n_HB := hid (below_step (by repeat (first | (with_reducible first | exact HB.out | apply below_alloc | apply pw_below_drewN | apply below_drew1) | exact HB.out)) hb); have BX := hid (hbox); clear HB RC BL; have HB := n_HB; have RC := n_RC; have BL := n_BL; clear n_HB n_RC n_BL hg hb hbox; have z0_ : w20.cell? ⟨gw_, 0, none⟩ = some (.int .i64 0) := blk_cell BX.out 0; have zf0_ := blk_frozen BX.out 0; have z1_ : w20.cell? ⟨gw_, 1, none⟩ = some (.int .i64 0) := blk_cell BX.out 1; have zf1_ := blk_frozen BX.out 1))
            have n_BW := hid (And.intro (blk_put (cs := #[.int .i64 (lc + u.d.t), .int .i64 0]) (cs' := #[.int .i64 (lc + u.d.t), .int .i64 (lr + 1)]) (blk_put (cs := #[.int .i64 0, .int .i64 0]) (cs' := #[.int .i64 (lc + u.d.t), .int .i64 0]) BX.out 0 _ rfl) 1 _ rfl) HGB.out)
            have n_RC := hid (Kd.R_mono (Kd.R_far (p := ⟨gw_, 1, none⟩) (Kd.R_far (p := ⟨gw_, 0, none⟩) (Kd.R_flat (ok' := fun k_ => True ∧ k_ ≠ gw_) (fun h_ => h_) RC.out (fun k_ hk_ _ => ⟨trivial, by have h2_ : b7 = k_ := (by simpa [Value.ownBlock] using hk_); have h3_ := HG7.out; omega⟩)) (fun _ hk => hk.2) (.int .i64 (lc + u.d.t))) (fun _ hk => hk.2) (.int .i64 (lr + 1))) (fun _ _ => trivial))
            have n_HB := hid (Below.setCell (p := ⟨gw_, 1, none⟩) (Below.setCell (p := ⟨gw_, 0, none⟩) HB.out HGB.out (.int .i64 (lc + u.d.t))) HGB.out (.int .i64 (lr + 1)))
            have n_BL := hid (And.intro (blk_far (p := ⟨gw_, 1, none⟩) (blk_far (p := ⟨gw_, 0, none⟩) BL.out.1 HGL.out (.int .i64 (lc + u.d.t))) HGL.out (.int .i64 (lr + 1))) BL.out.2)
            clear z0_ z1_ zf0_ zf1_ e0_ e1_ e2_ hw1_ hw2_ BX HB RC BL BO HG7 HGL HGB
            have BW := n_BW
            have HB := n_HB
            have RC := n_RC
            have BL := n_BL
            clear n_BW n_HB n_RC n_BL
            generalize World.setCell _ _ _ = w20b at BW RC HB BL ⊢
            by_cases hdr : lc < 1099511627776
            ·obtain ⟨lt_, hlt_⟩ : ∃ lt_, lt_ = decide (Price.lt (lc + u.d.t, lr + 1) (oc, or_)) := ⟨_, rfl⟩
             have HLS := hid (fun W => less_walk (lc + u.d.t, lr + 1) (oc, or_) W)
             rw [← hlt_] at HLS
             have HLT_ := hid hlt_
             have HDR := hid hdr
             have hdt : decide (lc < 1099511627776) = true := decide_eq_true hdr
             clear hlt_ hdr
             refine start_ (n := 11) (S := fun w' => True) (ds := []) #[ff, ff, ff, ff, ff, ff, ff, ff, ff, ff, ff] (by kernel_rfl) rfl rfl trivial (fun hHeld => ?_)
             refine with_tabW prs.tab21 prs.bits21 (fun HT_ HW_ => ?_)
             have n_HB := hid (below_drew HB.out)
             have n_RC := hid (Kd.R_drew RC.out)
             have n_BL := hid (And.intro (blk_drew BL.out.1) BL.out.2)
             have n_BW := hid (And.intro (blk_drew BW.out.1) BW.out.2)
             clear HB RC BL BW
             have HB := n_HB
             have RC := n_RC
             have BL := n_BL
             have BW := n_BW
             clear n_HB n_RC n_BL n_BW
             generalize World.drew _ = wX at HB RC BL BW hHeld ⊢
             refine pure_ (i := 0) (N := some 91) (v := ?_) (a' := ?_) #[tt, ff, ff, ff, ff, ff, ff, ff, ff, ff, ff] rfl rfl (any_of HT_.out (by kernel_rfl)) (fun _ _ _ h => h) (Or.inl ⟨by rfl, ?_⟩) ?_ ?_
             rotate_left
             ·intro w'
              go_simp
              with_reducible rfl
             rotate_left
             ·simp only [Act.put, List.setIfInBounds_toArray, List.set_cons_zero, List.set_cons_succ, i64_w, i32_w]
              rfl
             refine inv_at [1, 2, 3, 4, 5, 6, 7, 8, 9, 10] (fun a0_ b a w' => a = putSel a0_ b [(1, 92, .int .i64 lc), (2, 93, .bool true), (3, 94, .bool true), (4, 95, .agg #[.int .i64 (lc + u.d.t), .int .i64 (lr + 1)]), (5, 96, .slice (some ⟨b7, 0, none⟩) kk c7), (6, 97, .int .i64 (aa : Int)), (7, 98, .pointer (some ⟨b7, aa * 2, none⟩)), (8, 99, .agg #[.int .i64 oc, .int .i64 or_]), (9, 100, .bool lt_), (10, 101, .bool lt_)] ∧ (Below w.heap.size w w') ∧ (RP w w' b7 kk c7 g3) ∧ (w'.heap[gl_]? = some (.cells #[.int .i64 lc, .int .i64 lr] 60 (0, 0)) ∧ w.heap.size ≤ gl_) ∧ (w'.heap[gw_]? = some (.cells #[.int .i64 (lc + u.d.t), .int .i64 (lr + 1)] 60 (0, 0)) ∧ w.heap.size ≤ gw_)) HT_.out HW_.out (by kernel_rfl) (by kernel_rfl) ?_ ?_ ?_
             ·exact ⟨by simp only [putSel, Bool.false_eq_true, if_false], HB.out, RC.out, BL.out, BW.out⟩
             ·skip
              clear BL BW HB RC
              refine steps_cons ?_ ?_
              ·rintro b a w' ⟨ha, Q_HB, Q_RC, Q_BL, Q_BW⟩ hb_ hon hoff
               refine ⟨_, rfl, fun K hK => ?_⟩
               have e91 : a.tmps[91]? = some (.pointer (some ⟨gl_, 0, none⟩)) := by rw [ha]; exact (putSel_off rfl).trans rfl
               replace ha := am ha
               have HB := am Q_HB
               have RC := am Q_RC
               have BL := am Q_BL
               have BW := am Q_BW
               have l0_ : w'.cell? ⟨gl_, 0, none⟩ = some (.int .i64 lc) := blk_cell BL.out.1 0
               refine value_ (w1 := w') (v := .int .i64 lc) (by rfl) rfl ?_ ?_
               ·go_simp
                (try simp only [i64_w])
                try rfl
               refine hK.out _ _ ⟨(by rw [ha.out]; exact putSel_upk 0 hb_ rfl rfl rfl), Q_HB, Q_RC, Q_BL, Q_BW⟩
              refine steps_cons ?_ ?_
              ·rintro b a w' ⟨ha, Q_HB, Q_RC, Q_BL, Q_BW⟩ hb_ hon hoff
               refine ⟨_, rfl, fun K hK => ?_⟩
               have e92 : a.tmps[92]? = some (.int .i64 lc) := by rw [ha]; exact putSel_on (e := (1, 92, .int .i64 lc)) 0 rfl rfl (hon 1 (by kernel_rfl)) rfl
               replace ha := am ha
               have HB := am Q_HB
               have RC := am Q_RC
               have BL := am Q_BL
               have BW := am Q_BW
               refine value_ (w1 := w') (v := .bool true) (by rfl) rfl ?_ ?_
               ·go_simp
                (try simp only [i64_w])
                try rfl
               refine hK.out _ _ ⟨(by rw [ha.out]; exact putSel_upk 1 hb_ rfl rfl rfl), Q_HB, Q_RC, Q_BL, Q_BW⟩
              refine steps_cons ?_ ?_
              ·rintro b a w' ⟨ha, Q_HB, Q_RC, Q_BL, Q_BW⟩ hb_ hon hoff
               refine ⟨_, rfl, fun K hK => ?_⟩
               have e93 : a.tmps[93]? = some (.bool true) := by rw [ha]; exact putSel_on (e := (2, 93, .bool true)) 1 rfl rfl (hon 2 (by kernel_rfl)) rfl
               replace ha := am ha
               have HB := am Q_HB
               have RC := am Q_RC
               have BL := am Q_BL
               have BW := am Q_BW
               refine value_ (w1 := w') (v := .bool true) (by rfl) rfl ?_ ?_
               ·go_simp
                (try simp only [i64_w])
                try rfl
               refine hK.out _ _ ⟨(by rw [ha.out]; exact putSel_upk 2 hb_ rfl rfl rfl), Q_HB, Q_RC, Q_BL, Q_BW⟩
              refine steps_cons ?_ ?_
              ·rintro b a w' ⟨ha, Q_HB, Q_RC, Q_BL, Q_BW⟩ hb_ hon hoff
               refine ⟨_, rfl, fun K hK => ?_⟩
               have e16 : a.tmps[16]? = some (.pointer (some ⟨gw_, 0, none⟩)) := by rw [ha]; exact (putSel_off rfl).trans rfl
               have e94 : a.tmps[94]? = some (.bool true) := by rw [ha]; exact putSel_on (e := (3, 94, .bool true)) 2 rfl rfl (hon 3 (by kernel_rfl)) rfl
               replace ha := am ha
               have HB := am Q_HB
               have RC := am Q_RC
               have BL := am Q_BL
               have BW := am Q_BW
               have q0_ : w'.cell? ⟨gw_, 0, none⟩ = some (.int .i64 (lc + u.d.t)) := blk_cell BW.out.1 0
               have q1_ : w'.cell? ⟨gw_, 1, none⟩ = some (.int .i64 (lr + 1)) := blk_cell BW.out.1 1
               refine value_ (w1 := w') (v := .agg #[.int .i64 (lc + u.d.t), .int .i64 (lr + 1)]) (wanted_on rfl rfl rfl (e94.trans (by first | rfl | (simp [*]; done)))) rfl ?_ ?_
               ·go_simp
                (try simp only [i64_w])
                try rfl
               refine hK.out _ _ ⟨(by rw [ha.out]; exact putSel_upk 3 hb_ rfl rfl rfl), Q_HB, Q_RC, Q_BL, Q_BW⟩
              refine steps_cons ?_ ?_
              ·rintro b a w' ⟨ha, Q_HB, Q_RC, Q_BL, Q_BW⟩ hb_ hon hoff
               refine ⟨_, rfl, fun K hK => ?_⟩
               have e7 : a.tmps[7]? = some (.slice (some ⟨b7, 0, none⟩) kk c7) := by rw [ha]; exact (putSel_off rfl).trans rfl
               have e94 : a.tmps[94]? = some (.bool true) := by rw [ha]; exact putSel_on (e := (3, 94, .bool true)) 2 rfl rfl (hon 3 (by kernel_rfl)) rfl
               replace ha := am ha
               have HB := am Q_HB
               have RC := am Q_RC
               have BL := am Q_BL
               have BW := am Q_BW
               refine value_ (w1 := w') (v := .slice (some ⟨b7, 0, none⟩) kk c7) (wanted_on rfl rfl rfl (e94.trans (by first | rfl | (simp [*]; done)))) rfl ?_ ?_
               ·go_simp
                (try simp only [i64_w])
                try rfl
               refine hK.out _ _ ⟨(by rw [ha.out]; exact putSel_upk 4 hb_ rfl rfl rfl), Q_HB, Q_RC, Q_BL, Q_BW⟩
              refine steps_cons ?_ ?_
              ·rintro b a w' ⟨ha, Q_HB, Q_RC, Q_BL, Q_BW⟩ hb_ hon hoff
               refine ⟨_, rfl, fun K hK => ?_⟩
               have e11 : a.tmps[11]? = some (.int .i64 (aa : Int)) := by rw [ha]; exact (putSel_off rfl).trans rfl
               have e94 : a.tmps[94]? = some (.bool true) := by rw [ha]; exact putSel_on (e := (3, 94, .bool true)) 2 rfl rfl (hon 3 (by kernel_rfl)) rfl
               replace ha := am ha
               have HB := am Q_HB
               have RC := am Q_RC
               have BL := am Q_BL
               have BW := am Q_BW
               refine value_ (w1 := w') (v := .int .i64 (aa : Int)) (wanted_on rfl rfl rfl (e94.trans (by first | rfl | (simp [*]; done)))) rfl ?_ ?_
               ·go_simp
                (try simp only [i64_w])
                try rfl
               refine hK.out _ _ ⟨(by rw [ha.out]; exact putSel_upk 5 hb_ rfl rfl rfl), Q_HB, Q_RC, Q_BL, Q_BW⟩
              refine steps_cons ?_ ?_
              ·rintro b a w' ⟨ha, Q_HB, Q_RC, Q_BL, Q_BW⟩ hb_ hon hoff
               refine ⟨_, rfl, fun K hK => ?_⟩
               have e96 : a.tmps[96]? = some (.slice (some ⟨b7, 0, none⟩) kk c7) := by rw [ha]; exact putSel_on (e := (5, 96, .slice (some ⟨b7, 0, none⟩) kk c7)) 4 rfl rfl (hon 5 (by kernel_rfl)) rfl
               have e97 : a.tmps[97]? = some (.int .i64 (aa : Int)) := by rw [ha]; exact putSel_on (e := (6, 97, .int .i64 (aa : Int))) 5 rfl rfl (hon 6 (by kernel_rfl)) rfl
               have e94 : a.tmps[94]? = some (.bool true) := by rw [ha]; exact putSel_on (e := (3, 94, .bool true)) 2 rfl rfl (hon 3 (by kernel_rfl)) rfl
               replace ha := am ha
               have HB := am Q_HB
               have RC := am Q_RC
               have BL := am Q_BL
               have BW := am Q_BW
               have ha_ : (aa : Int) < (kk : Int) := by have h_ := HA.out; omega
               refine value_ (w1 := w') (v := .pointer (some ⟨b7, aa * 2, none⟩)) (wanted_on rfl rfl rfl (e94.trans (by first | rfl | (simp [*]; done)))) rfl ?_ ?_
               ·go_simp
                (try simp only [i64_w])
                try rfl
               refine hK.out _ _ ⟨(by rw [ha.out]; exact putSel_upk 6 hb_ rfl rfl rfl), Q_HB, Q_RC, Q_BL, Q_BW⟩
              refine steps_cons ?_ ?_
              ·rintro b a w' ⟨ha, Q_HB, Q_RC, Q_BL, Q_BW⟩ hb_ hon hoff
               refine ⟨_, rfl, fun K hK => ?_⟩
               have e98 : a.tmps[98]? = some (.pointer (some ⟨b7, aa * 2, none⟩)) := by rw [ha]; exact putSel_on (e := (7, 98, .pointer (some ⟨b7, aa * 2, none⟩))) 6 rfl rfl (hon 7 (by kernel_rfl)) rfl
               have e94 : a.tmps[94]? = some (.bool true) := by rw [ha]; exact putSel_on (e := (3, 94, .bool true)) 2 rfl rfl (hon 3 (by kernel_rfl)) rfl
               replace ha := am ha
               have HB := am Q_HB
               have RC := am Q_RC
               have BL := am Q_BL
               have BW := am Q_BW
               obtain ⟨⟨l0_, l1_⟩, _, _⟩ := pr_cells RC.out aa (oc, or_) (by rw [← HOV.out]; exact row_at g3 HA.out)
               simp only at l0_ l1_
               refine value_ (w1 := w') (v := .agg #[.int .i64 oc, .int .i64 or_]) (wanted_on rfl rfl rfl (e94.trans (by first | rfl | (simp [*]; done)))) rfl ?_ ?_
               ·go_simp
                (try simp only [i64_w])
                try rfl
               refine hK.out _ _ ⟨(by rw [ha.out]; exact putSel_upk 7 hb_ rfl rfl rfl), Q_HB, Q_RC, Q_BL, Q_BW⟩
              refine steps_cons ?_ ?_
              ·rintro b a w' ⟨ha, Q_HB, Q_RC, Q_BL, Q_BW⟩ hb_ hon hoff
               refine ⟨_, rfl, fun K hK => ?_⟩
               have e95 : a.tmps[95]? = some (.agg #[.int .i64 (lc + u.d.t), .int .i64 (lr + 1)]) := by rw [ha]; exact putSel_on (e := (4, 95, .agg #[.int .i64 (lc + u.d.t), .int .i64 (lr + 1)])) 3 rfl rfl (hon 4 (by kernel_rfl)) rfl
               have e99 : a.tmps[99]? = some (.agg #[.int .i64 oc, .int .i64 or_]) := by rw [ha]; exact putSel_on (e := (8, 99, .agg #[.int .i64 oc, .int .i64 or_])) 7 rfl rfl (hon 8 (by kernel_rfl)) rfl
               have e94 : a.tmps[94]? = some (.bool true) := by rw [ha]; exact putSel_on (e := (3, 94, .bool true)) 2 rfl rfl (hon 3 (by kernel_rfl)) rfl
               replace ha := am ha
               have HB := am Q_HB
               have RC := am Q_RC
               have BL := am Q_BL
               have BW := am Q_BW
               refine call_ 29 #[.agg #[.int .i64 (lc + u.d.t), .int .i64 (lr + 1)], .agg #[.int .i64 oc, .int .i64 or_]] (wanted_on rfl rfl rfl (e94.trans (by first | rfl | (simp [*]; done)))) rfl ?_ ?_
               ·go_simp
                (try rfl)
               with_reducible refine (HLS.out w').mono ?_
               rintro e' w1 ⟨rfl, hb⟩
               refine ⟨_, rfl, ?_⟩
               refine hK.out _ _ ⟨(by rw [ha.out]; exact putSel_upk 8 hb_ rfl rfl rfl), below_then HB.out HB.out.size hb, Kd.R_below RC.out hb, ⟨blk_below BL.out.1 hb, BL.out.2⟩, ⟨blk_below BW.out.1 hb, BW.out.2⟩⟩
              refine steps_cons ?_ ?_
              ·rintro b a w' ⟨ha, Q_HB, Q_RC, Q_BL, Q_BW⟩ hb_ hon hoff
               refine ⟨_, rfl, fun K hK => ?_⟩
               have e94 : a.tmps[94]? = some (.bool true) := by rw [ha]; exact putSel_on (e := (3, 94, .bool true)) 2 rfl rfl (hon 3 (by kernel_rfl)) rfl
               have e100 : a.tmps[100]? = some (.bool lt_) := by rw [ha]; exact putSel_on (e := (9, 100, .bool lt_)) 8 rfl rfl (hon 9 (by kernel_rfl)) rfl
               replace ha := am ha
               have HB := am Q_HB
               have RC := am Q_RC
               have BL := am Q_BL
               have BW := am Q_BW
               refine value_ (w1 := w') (v := .bool lt_) (by rfl) rfl ?_ ?_
               ·go_simp
                (try simp only [i64_w])
                try rfl
               refine hK.out _ _ ⟨(by rw [ha.out]; exact putSel_upk 9 hb_ rfl rfl rfl), Q_HB, Q_RC, Q_BL, Q_BW⟩
              exact steps_nil
             ·rintro b a w' hall ⟨ha, Q_HB, Q_RC, Q_BL, Q_BW⟩
              clear BL BW HB RC
              have hb1_ := hall 1 (by kernel_rfl)
              have hb2_ := hall 2 (by kernel_rfl)
              have hb3_ := hall 3 (by kernel_rfl)
              have hb4_ := hall 4 (by kernel_rfl)
              have hb5_ := hall 5 (by kernel_rfl)
              have hb6_ := hall 6 (by kernel_rfl)
              have hb7_ := hall 7 (by kernel_rfl)
              have hb8_ := hall 8 (by kernel_rfl)
              have hb9_ := hall 9 (by kernel_rfl)
              have hb10_ := hall 10 (by kernel_rfl)
              subst ha
              simp only [putSel, hb1_, hb2_, hb3_, hb4_, hb5_, hb6_, hb7_, hb8_, hb9_, hb10_, if_true, Act.put, List.setIfInBounds_toArray, List.set_cons_zero, List.set_cons_succ]
              have HB := am Q_HB
              clear Q_HB
              have RC := am Q_RC
              clear Q_RC
              have BL := am Q_BL
              clear Q_BL
              have BW := am Q_BW
              clear Q_BW
              clear hall hb1_ hb2_ hb3_ hb4_ hb5_ hb6_ hb7_ hb8_ hb9_ hb10_
              cases lt_ with
              | false =>
               go_wp2_with fail
               go_roundw
               case rel => exact ⟨ii + 1, g3, c3, rfl, by go_num, HI4.out, HI.out, (fun h => ⟨(HF.out.1 h).1, (HF.out.1 h).2.1, fun d hd_ => by
                by_cases e : d = ii
                ·subst e
                 exact fun j hj _ => by
                  rw [HNX.out] at hj
                  injection hj with hj
                  subst hj
                  have h_ := of_decide_eq_false HLT_.out.symm
                  unfold Price.edge
                  rw [HLV.out, HOV.out, HTOP.out]
                  exact h_
                ·exact (HF.out.1 h).2.2 d (by omega)⟩), HF.out.2, RC.out, HB.out⟩
               case measure =>
                have := HI4.out
                simp [intOf]
                omega
              | true =>
               have hedge : Price.edge (topL L) (g3 pp) pp = (lc + u.d.t, lr + 1) := by unfold Price.edge; rw [HLV.out, HTOP.out]
               have hlt2 : Price.lt (Price.edge (topL L) (g3 pp) pp) (g3 aa) := by rw [hedge, HOV.out]; exact of_decide_eq_true HLT_.out.symm
               have hdd : (g3 pp).1 < Price.dear := by rw [HLV.out]; exact HDR.out
               have hI2 := Price.inv_put HG.out HI.out HA.out HI4.out HNX.out hdd hlt2
               have hT2 := Price.tot_less HG.out HI.out HA.out HI4.out HNX.out hdd hlt2
               rw [hedge] at hI2 hT2
               have HI2 := hid hI2
               have HT2 := hid (show TT kk (put g3 aa (lc + u.d.t, lr + 1)) < TT kk g by
                have h_ := HF.out
                cases c3 with
                | false =>
                 rw [← (h_.1 rfl).1]
                 exact hT2
                | true => exact Nat.lt_trans hT2 (h_.2 rfl))
               have hrow := row_at g3 HA.out
               obtain ⟨⟨p0_, p1_⟩, p2_, p3_⟩ := pr_cells RC.out aa _ hrow
               have HP := hid (show RP w ((w'.setCell ⟨b7, aa * 2, none⟩ (.int .i64 (lc + u.d.t))).setCell ⟨b7, aa * 2 + 1, none⟩ (.int .i64 (lr + 1))) b7 kk c7 (put g3 aa (lc + u.d.t, lr + 1)) from by
                have h_ := (pr_put2 RC.out aa _ (lc + u.d.t, lr + 1) hrow).1
                rw [row_set] at h_
                exact h_)
               have n_HB := hid (show Below w.heap.size w ((w'.setCell ⟨b7, aa * 2, none⟩ (.int .i64 (lc + u.d.t))).setCell ⟨b7, aa * 2 + 1, none⟩ (.int .i64 (lr + 1))) from below_set (below_set HB.out HB7.out) HB7.out)
               have ha1 : (aa : Int) < (kk : Int) := by have := HA.out; omega
               have y0_ : w'.cell? ⟨gw_, 0, none⟩ = some (.int .i64 (lc + u.d.t)) := blk_cell BW.out.1 0
               have y1_ : w'.cell? ⟨gw_, 1, none⟩ = some (.int .i64 (lr + 1)) := blk_cell BW.out.1 1
               clear hedge hlt2 hdd hI2 hT2 hrow
               go_upto_region 23 with fail
               clear RC HB p0_ p1_ p2_ p3_ ha1
               have HB := n_HB
               clear n_HB
               generalize World.setCell _ _ _ = w22 at HP HB ⊢
               go_wp2_with fail
               go_roundw
               case rel => exact ⟨ii + 1, _, true, rfl, by go_num, HI4.out, HI2.out, (fun h => by cases h), (fun _ => HT2.out), HP.out, HB.out⟩
               case measure =>
                have := HI4.out
                simp [intOf]
                omega
            ·have HDR := hid hdr
             have hdt : decide (lc < 1099511627776) = false := decide_eq_false hdr
             clear hdr
             refine start_ (n := 11) (S := fun w' => True) (ds := []) #[ff, ff, ff, ff, ff, ff, ff, ff, ff, ff, ff] (by kernel_rfl) rfl rfl trivial (fun hHeld => ?_)
             refine with_tabW prs.tab21 prs.bits21 (fun HT_ HW_ => ?_)
             have n_HB := hid (below_drew HB.out)
             have n_RC := hid (Kd.R_drew RC.out)
             have n_BL := hid (And.intro (blk_drew BL.out.1) BL.out.2)
             have n_BW := hid (And.intro (blk_drew BW.out.1) BW.out.2)
             clear HB RC BL BW
             have HB := n_HB
             have RC := n_RC
             have BL := n_BL
             have BW := n_BW
             clear n_HB n_RC n_BL n_BW
             generalize World.drew _ = w21 at HB RC BL BW hHeld ⊢
             refine pure_ (i := 0) (N := some 91) (v := ?_) (a' := ?_) #[tt, ff, ff, ff, ff, ff, ff, ff, ff, ff, ff] rfl rfl (any_of HT_.out (by kernel_rfl)) (fun _ _ _ h => h) (Or.inl ⟨by rfl, ?_⟩) ?_ ?_
             rotate_left
             ·intro w'
              go_simp
              with_reducible rfl
             rotate_left
             ·simp only [Act.put, List.setIfInBounds_toArray, List.set_cons_zero, List.set_cons_succ, i64_w, i32_w]
              rfl
             refine inv_at [1, 2, 3, 4, 5, 6, 7, 8, 9, 10] (fun a0_ b a w' => a = putSel a0_ b [(1, 92, .int .i64 lc), (2, 93, .bool false), (3, 94, .bool false), (4, 95, undef), (5, 96, undef), (6, 97, undef), (7, 98, undef), (8, 99, undef), (9, 100, undef), (10, 101, .bool false)] ∧ (Below w.heap.size w w') ∧ (RP w w' b7 kk c7 g3) ∧ (w'.heap[gl_]? = some (.cells #[.int .i64 lc, .int .i64 lr] 60 (0, 0)) ∧ w.heap.size ≤ gl_) ∧ (w'.heap[gw_]? = some (.cells #[.int .i64 (lc + u.d.t), .int .i64 (lr + 1)] 60 (0, 0)) ∧ w.heap.size ≤ gw_)) HT_.out HW_.out (by kernel_rfl) (by kernel_rfl) ?_ ?_ ?_
             ·exact ⟨by simp only [putSel, Bool.false_eq_true, if_false], HB.out, RC.out, BL.out, BW.out⟩
             ·skip
              clear BL BW HB RC
              refine steps_cons ?_ ?_
              ·rintro b a w' ⟨ha, Q_HB, Q_RC, Q_BL, Q_BW⟩ hb_ hon hoff
               refine ⟨_, rfl, fun K hK => ?_⟩
               have e91 : a.tmps[91]? = some (.pointer (some ⟨gl_, 0, none⟩)) := by rw [ha]; exact (putSel_off rfl).trans rfl
               replace ha := am ha
               have HB := am Q_HB
               have RC := am Q_RC
               have BL := am Q_BL
               have BW := am Q_BW
               have l0_ : w'.cell? ⟨gl_, 0, none⟩ = some (.int .i64 lc) := blk_cell BL.out.1 0
               refine value_ (w1 := w') (v := .int .i64 lc) (by rfl) rfl ?_ ?_
               ·go_simp
                (try simp only [i64_w])
                try rfl
               refine hK.out _ _ ⟨(by rw [ha.out]; exact putSel_upk 0 hb_ rfl rfl rfl), Q_HB, Q_RC, Q_BL, Q_BW⟩
              refine steps_cons ?_ ?_
              ·rintro b a w' ⟨ha, Q_HB, Q_RC, Q_BL, Q_BW⟩ hb_ hon hoff
               refine ⟨_, rfl, fun K hK => ?_⟩
               have e92 : a.tmps[92]? = some (.int .i64 lc) := by rw [ha]; exact putSel_on (e := (1, 92, .int .i64 lc)) 0 rfl rfl (hon 1 (by kernel_rfl)) rfl
               replace ha := am ha
               have HB := am Q_HB
               have RC := am Q_RC
               have BL := am Q_BL
               have BW := am Q_BW
               refine value_ (w1 := w') (v := .bool false) (by rfl) rfl ?_ ?_
               ·go_simp
                (try simp only [i64_w])
                try rfl
               refine hK.out _ _ ⟨(by rw [ha.out]; exact putSel_upk 1 hb_ rfl rfl rfl), Q_HB, Q_RC, Q_BL, Q_BW⟩
              refine steps_cons ?_ ?_
              ·rintro b a w' ⟨ha, Q_HB, Q_RC, Q_BL, Q_BW⟩ hb_ hon hoff
               refine ⟨_, rfl, fun K hK => ?_⟩
               have e93 : a.tmps[93]? = some (.bool false) := by rw [ha]; exact putSel_on (e := (2, 93, .bool false)) 1 rfl rfl (hon 2 (by kernel_rfl)) rfl
               replace ha := am ha
               have HB := am Q_HB
               have RC := am Q_RC
               have BL := am Q_BL
               have BW := am Q_BW
               refine value_ (w1 := w') (v := .bool false) (by rfl) rfl ?_ ?_
               ·go_simp
                (try simp only [i64_w])
                try rfl
               refine hK.out _ _ ⟨(by rw [ha.out]; exact putSel_upk 2 hb_ rfl rfl rfl), Q_HB, Q_RC, Q_BL, Q_BW⟩
              refine steps_cons ?_ ?_
              ·rintro b a w' ⟨ha, Q_HB, Q_RC, Q_BL, Q_BW⟩ hb_ hon hoff
               refine ⟨_, rfl, fun K hK => ?_⟩
               have e94 : a.tmps[94]? = some (.bool false) := by rw [ha]; exact putSel_on (e := (3, 94, .bool false)) 2 rfl rfl (hon 3 (by kernel_rfl)) rfl
               replace ha := am ha
               have HB := am Q_HB
               have RC := am Q_RC
               have BL := am Q_BL
               have BW := am Q_BW
               refine off_ (wanted_off rfl rfl rfl (e94.trans (by first | rfl | (simp [*]; done)))) ?_
               refine hK.out _ _ ⟨(by rw [ha.out]; exact putSel_upk 3 hb_ rfl rfl rfl), Q_HB, Q_RC, Q_BL, Q_BW⟩
              refine steps_cons ?_ ?_
              ·rintro b a w' ⟨ha, Q_HB, Q_RC, Q_BL, Q_BW⟩ hb_ hon hoff
               refine ⟨_, rfl, fun K hK => ?_⟩
               have e94 : a.tmps[94]? = some (.bool false) := by rw [ha]; exact putSel_on (e := (3, 94, .bool false)) 2 rfl rfl (hon 3 (by kernel_rfl)) rfl
               replace ha := am ha
               have HB := am Q_HB
               have RC := am Q_RC
               have BL := am Q_BL
               have BW := am Q_BW
               refine off_ (wanted_off rfl rfl rfl (e94.trans (by first | rfl | (simp [*]; done)))) ?_
               refine hK.out _ _ ⟨(by rw [ha.out]; exact putSel_upk 4 hb_ rfl rfl rfl), Q_HB, Q_RC, Q_BL, Q_BW⟩
              refine steps_cons ?_ ?_
              ·rintro b a w' ⟨ha, Q_HB, Q_RC, Q_BL, Q_BW⟩ hb_ hon hoff
               refine ⟨_, rfl, fun K hK => ?_⟩
               have e94 : a.tmps[94]? = some (.bool false) := by rw [ha]; exact putSel_on (e := (3, 94, .bool false)) 2 rfl rfl (hon 3 (by kernel_rfl)) rfl
               replace ha := am ha
               have HB := am Q_HB
               have RC := am Q_RC
               have BL := am Q_BL
               have BW := am Q_BW
               refine off_ (wanted_off rfl rfl rfl (e94.trans (by first | rfl | (simp [*]; done)))) ?_
               refine hK.out _ _ ⟨(by rw [ha.out]; exact putSel_upk 5 hb_ rfl rfl rfl), Q_HB, Q_RC, Q_BL, Q_BW⟩
              refine steps_cons ?_ ?_
              ·rintro b a w' ⟨ha, Q_HB, Q_RC, Q_BL, Q_BW⟩ hb_ hon hoff
               refine ⟨_, rfl, fun K hK => ?_⟩
               have e94 : a.tmps[94]? = some (.bool false) := by rw [ha]; exact putSel_on (e := (3, 94, .bool false)) 2 rfl rfl (hon 3 (by kernel_rfl)) rfl
               replace ha := am ha
               have HB := am Q_HB
               have RC := am Q_RC
               have BL := am Q_BL
               have BW := am Q_BW
               refine off_ (wanted_off rfl rfl rfl (e94.trans (by first | rfl | (simp [*]; done)))) ?_
               refine hK.out _ _ ⟨(by rw [ha.out]; exact putSel_upk 6 hb_ rfl rfl rfl), Q_HB, Q_RC, Q_BL, Q_BW⟩
              refine steps_cons ?_ ?_
              ·rintro b a w' ⟨ha, Q_HB, Q_RC, Q_BL, Q_BW⟩ hb_ hon hoff
               refine ⟨_, rfl, fun K hK => ?_⟩
               have e94 : a.tmps[94]? = some (.bool false) := by rw [ha]; exact putSel_on (e := (3, 94, .bool false)) 2 rfl rfl (hon 3 (by kernel_rfl)) rfl
               replace ha := am ha
               have HB := am Q_HB
               have RC := am Q_RC
               have BL := am Q_BL
               have BW := am Q_BW
               refine off_ (wanted_off rfl rfl rfl (e94.trans (by first | rfl | (simp [*]; done)))) ?_
               refine hK.out _ _ ⟨(by rw [ha.out]; exact putSel_upk 7 hb_ rfl rfl rfl), Q_HB, Q_RC, Q_BL, Q_BW⟩
              refine steps_cons ?_ ?_
              ·rintro b a w' ⟨ha, Q_HB, Q_RC, Q_BL, Q_BW⟩ hb_ hon hoff
               refine ⟨_, rfl, fun K hK => ?_⟩
               have e94 : a.tmps[94]? = some (.bool false) := by rw [ha]; exact putSel_on (e := (3, 94, .bool false)) 2 rfl rfl (hon 3 (by kernel_rfl)) rfl
               replace ha := am ha
               have HB := am Q_HB
               have RC := am Q_RC
               have BL := am Q_BL
               have BW := am Q_BW
               refine off_ (wanted_off rfl rfl rfl (e94.trans (by first | rfl | (simp [*]; done)))) ?_
               refine hK.out _ _ ⟨(by rw [ha.out]; exact putSel_upk 8 hb_ rfl rfl rfl), Q_HB, Q_RC, Q_BL, Q_BW⟩
              refine steps_cons ?_ ?_
              ·rintro b a w' ⟨ha, Q_HB, Q_RC, Q_BL, Q_BW⟩ hb_ hon hoff
               refine ⟨_, rfl, fun K hK => ?_⟩
               have e94 : a.tmps[94]? = some (.bool false) := by rw [ha]; exact putSel_on (e := (3, 94, .bool false)) 2 rfl rfl (hon 3 (by kernel_rfl)) rfl
               have e100 : a.tmps[100]? = some (undef) := by rw [ha]; exact putSel_on (e := (9, 100, undef)) 8 rfl rfl (hon 9 (by kernel_rfl)) rfl
               replace ha := am ha
               have HB := am Q_HB
               have RC := am Q_RC
               have BL := am Q_BL
               have BW := am Q_BW
               refine value_ (w1 := w') (v := .bool false) (by rfl) rfl ?_ ?_
               ·go_simp
                (try simp only [i64_w])
                try rfl
               refine hK.out _ _ ⟨(by rw [ha.out]; exact putSel_upk 9 hb_ rfl rfl rfl), Q_HB, Q_RC, Q_BL, Q_BW⟩
              exact steps_nil
             ·rintro b a w' hall ⟨ha, Q_HB, Q_RC, Q_BL, Q_BW⟩
              clear BL BW HB RC
              have hb1_ := hall 1 (by kernel_rfl)
              have hb2_ := hall 2 (by kernel_rfl)
              have hb3_ := hall 3 (by kernel_rfl)
              have hb4_ := hall 4 (by kernel_rfl)
              have hb5_ := hall 5 (by kernel_rfl)
              have hb6_ := hall 6 (by kernel_rfl)
              have hb7_ := hall 7 (by kernel_rfl)
              have hb8_ := hall 8 (by kernel_rfl)
              have hb9_ := hall 9 (by kernel_rfl)
              have hb10_ := hall 10 (by kernel_rfl)
              subst ha
              simp only [putSel, hb1_, hb2_, hb3_, hb4_, hb5_, hb6_, hb7_, hb8_, hb9_, hb10_, if_true, Act.put, List.setIfInBounds_toArray, List.set_cons_zero, List.set_cons_succ]
              have HB := am Q_HB
              clear Q_HB
              have RC := am Q_RC
              clear Q_RC
              have BL := am Q_BL
              clear Q_BL
              have BW := am Q_BW
              clear Q_BW
              clear hall hb1_ hb2_ hb3_ hb4_ hb5_ hb6_ hb7_ hb8_ hb9_ hb10_
              go_wp2_with fail
              go_roundw
              case rel => exact ⟨ii + 1, g3, c3, rfl, by go_num, HI4.out, HI.out, (fun h => ⟨(HF.out.1 h).1, (HF.out.1 h).2.1, fun d hd_ => by
               by_cases e : d = ii
               ·subst e
                exact fun j hj h1_ => by
                 rw [HNX.out] at hj
                 injection hj with hj
                 subst hj
                 rw [HLV.out] at h1_
                 exact absurd h1_ HDR.out
               ·exact (HF.out.1 h).2.2 d (by omega)⟩), HF.out.2, RC.out, HB.out⟩
              case measure =>
               have := HI4.out
               simp [intOf]
               omega
        ·obtain rfl : ii = 4 := by omega
         clear h4
         have haw := HA.out
         go_wp2_with fail
         go_roundw
         case rel => exact ⟨aa, g3, c3, rfl, by go_num, by omega, HI.out, (fun h => ⟨(HF.out.1 h).1, fun x h1 h2 d hd_ => by
          by_cases e : x = aa
          ·subst e
           exact (HF.out.1 h).2.2 d hd_
          ·exact (HF.out.1 h).2.1 x (by omega) h2 d hd_⟩), HF.out.2, RC.out, HB.out⟩
         case measure => first | (simp [intOf]; done) | (simp [intOf]; omega)
end Go.Proofs.YtkoejpimalbhbaaDoor.PricesC
