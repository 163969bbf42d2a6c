/- The reference's costs, walked. Conditions: a list of nodes that is a graph. -/
import Derived.Test.YtkoejpimalbhbaaDoorWyNx
import Derived.OwnWalk
import Derived.Deep.LoopGhost
import Derived.Deep.QuietTactic
import Derived.BigQuiet
import Derived.Deep.CutBlock
import Derived.Deep.RegionHeld3
import Derived.Deep.RegionWith
import Derived.Deep.DeepCutAuto
import Derived.Lib.Hide
import Derived.Carry
import Derived.IntWalk
namespace Go.Proofs.YtkoejpimalbhbaaDoor.Costs
set_option maxHeartbeats 8000000
set_option maxRecDepth 100000
open Go.Lib (hid)
open Go.RowKit Go.Proofs.YtkoejpimalbhbaaDoorW.PrintWords Go.Proofs.YtkoejpimalbhbaaDoorW.PrintLast Go.Proofs.YtkoejpimalbhbaaDoor.QBs Go.Proofs.YtkoejpimalbhbaaDoor.ReachR Go.Proofs.YtkoejpimalbhbaaDoor.WyR Go.Proofs.YtkoejpimalbhbaaDoor.PriceG Go.Proofs.YtkoejpimalbhbaaDoor.WyNx
open Go.Proofs.YtkoejpimalbhbaaDoor.Price (put put_self put_ne left Graph Dij Mid P edge)
set_option linter.unusedVariables false
set_option linter.unusedSimpArgs false

theorem sc_cell {α : Type} {enc : α → Value} {h1 : ∀ x, (enc x).oneCell' = true} {e base b c n : Nat} {ok : Nat → Prop} {w : World} {xs : List α} (h : Kd.R (Kd.scalar enc h1) e w base ok (.slice (some ⟨b, 0, none⟩) n c) xs) (k : Nat) (v : α) (hx : xs[k]? = some v) :
  w.cell? ⟨b, k, none⟩ = some (enc v) ∧ w.frozen? ⟨b, k, none⟩ = false := by
 obtain ⟨hk, hv⟩ := List.getElem?_eq_some_iff.1 hx
 have hn := (Kd.R_reads' h).1
 obtain ⟨ce, hcl, hM, hcc, hfr⟩ := Kd.R_elem h v (k : Int) (by omega) (by omega)
 have hg : xs.getD (k : Int).toNat v = v := by
  rw [Int.toNat_natCast, List.getD_eq_getElem?_getD, hx]
  rfl
 rw [hg] at hM
 have hM : ce = [enc v] := hM
 subst hM
 have h2 := hcc 0 (enc v) rfl
 have h3 := hfr 0
 simp only [Int.toNat_natCast] at h2 h3
 have e1 : k * (Kd.scalar enc h1).sz + 0 = k := by show k * 1 + 0 = k; omega
 rw [e1] at h2 h3
 exact ⟨h2, h3⟩
theorem nd_cells {w : World} {ad : Addr} {l : List SN} (h : Kd.C kNd w (some ad) l.length l) (k : Nat) (z : SN) (hz : l[k]? = some z) :
  w.cell? ⟨(ad.add (k * 16)).block, (ad.add (k * 16)).off + 2, none⟩ = some (.int .i64 z.f0.f2.f0) ∧ w.cell? ⟨(ad.add (k * 16)).block, (ad.add (k * 16)).off + 12, none⟩ = some (.int .i64 z.f5.f0) ∧ w.cell? ⟨(ad.add (k * 16)).block, (ad.add (k * 16)).off + 13, none⟩ = some (.int .i64 z.f5.f1) ∧
  w.cell? ⟨(ad.add (k * 16)).block, (ad.add (k * 16)).off + 14, none⟩ = some (.int .i64 z.f5.f2) ∧ w.cell? ⟨(ad.add (k * 16)).block, (ad.add (k * 16)).off + 15, none⟩ = some (.int .i64 z.f5.f3) := by
 have hk := (List.getElem?_eq_some_iff.1 hz).1
 obtain ⟨ad', e0, _, _, h2, _, _, _, _, _, _, _, _, _, h12, h13, h14, h15⟩ := at_T44 h (k : Int) (by omega) (by omega)
 injection e0 with e0
 subst e0
 have hr : rd_T44 l (k : Int) = z := by simp [rd_T44, List.getD, hz]
 rw [hr] at h2 h12 h13 h14 h15
 simp only [Int.toNat_natCast] at h2 h12 h13 h14 h15
 exact ⟨h2, h12, h13, h14, h15⟩
theorem infoBl : (Tryd.prog.info? 4).map (fun i => (i.zero, i.size, i.bytes)) = some (some (.bool false), 1, 1) := by kernel_rfl
theorem infoI : (Tryd.prog.info? 3).map (fun i => (i.zero, i.size, i.bytes)) = some (some (.int .i64 0), 1, 8) := by kernel_rfl
theorem index_next (z : SN) (i : Nat) (hi : i < 4) (W : World) : (Instr.index 42 (.agg #[.int .i64 z.f5.f0, .int .i64 z.f5.f1, .int .i64 z.f5.f2, .int .i64 z.f5.f3]) (.int .i64 (i : Int))).run Tryd.prog W = .ok (.int .i64 (nxI z i)) W := by
 rcases i with _ | _ | _ | _ | i
 ·go_simp; rfl
 ·go_simp; rfl
 ·go_simp; rfl
 ·go_simp; rfl
 ·omega
abbrev RI (w wr : World) (b n c : Nat) (g : Nat → Int) : Prop := Kd.R (Kd.int .i64) 3 wr w.heap.size (fun _ => True) (.slice (some ⟨b, 0, none⟩) n c) (rowF n g)
abbrev RB (w wr : World) (b n c : Nat) (g : Nat → Bool) : Prop := Kd.R Kd.bool 4 wr w.heap.size (fun _ => True) (.slice (some ⟨b, 0, none⟩) n c) (rowF n g)
structure RW (w wr : World) (n b4 c4 b5 c5 b7 c7 : Nat) (h : Nat → P) (dn : Nat → Bool) : Prop where
 r4 : RI w wr b4 n c4 fun k => (h k).1
 r5 : RI w wr b5 n c5 fun k => (h k).2
 r7 : RB w wr b7 n c7 dn
 bel : Below w.heap.size w wr
section
variable {w wr : World} {n b4 c4 b5 c5 b7 c7 : Nat} {h : Nat → P} {dn : Nat → Bool}
theorem RW.drewN (r : RW w wr n b4 c4 b5 c5 b7 c7 h dn) (m : Nat) : RW w (wr.drewN m) n b4 c4 b5 c5 b7 c7 h dn := ⟨Kd.R_drewN r.r4 m, Kd.R_drewN r.r5 m, Kd.R_drewN r.r7 m, pw_below_drewN r.bel m⟩
theorem ri_put {b c : Nat} {g : Nat → Int} (r : RI w wr b n c g) (k : Nat) (v : Int) : RI w (wr.setCell ⟨b, k, none⟩ (.int .i64 v)) b n c (put g k v) ∧ wr.grownBy (wr.setCell ⟨b, k, none⟩ (.int .i64 v)) (some b) := by
 have h_ := Kd.R_putg (enc := fun x : Int => Value.int .i64 x) r (k : Int) v
 rw [Int.toNat_natCast, row_set] at h_
 exact h_
theorem rb_put {b c : Nat} {g : Nat → Bool} (r : RB w wr b n c g) (k : Nat) (v : Bool) : RB w (wr.setCell ⟨b, k, none⟩ (.bool v)) b n c (put g k v) ∧ wr.grownBy (wr.setCell ⟨b, k, none⟩ (.bool v)) (some b) := by
 have h_ := Kd.R_putg (enc := fun x : Bool => Value.bool x) r (k : Int) v
 rw [Int.toNat_natCast, row_set] at h_
 exact h_
theorem keep_row {α : Type} {d : Kd α} {e base b b' c : Nat} {w1 w2 : World} {xs : List α} (r : d.R e w1 base (fun _ => True) (.slice (some ⟨b, 0, none⟩) n c) xs) (hE : d.E = []) (hg : w1.grownBy w2 (some b')) (hne : b ≠ b') : d.R e w2 base (fun _ => True) (.slice (some ⟨b, 0, none⟩) n c) xs :=
 Kd.R_grown2 r hE hg (fun k hk h_ => by injection hk with hk; subst hk; exact hne (by simpa [Value.ownBlock] using h_.symm))
theorem put_fst (h : Nat → P) (k : Nat) (p : P) : (fun j => (put h k p j).1) = put (fun j => (h j).1) k p.1 := by
 funext j
 unfold put
 split <;> rfl
theorem put_snd (h : Nat → P) (k : Nat) (p : P) : (fun j => (put h k p j).2) = put (fun j => (h j).2) k p.2 := by
 funext j
 unfold put
 split <;> rfl
theorem RW.done (r : RW w wr n b4 c4 b5 c5 b7 c7 h dn) (h4 : b4 ≠ b7) (h5 : b5 ≠ b7) (hb : w.heap.size ≤ b7) (k : Nat) : RW w (wr.setCell ⟨b7, k, none⟩ (.bool true)) n b4 c4 b5 c5 b7 c7 h (put dn k true) := by
 obtain ⟨h1, h2⟩ := rb_put r.r7 k true
 exact ⟨keep_row r.r4 rfl h2 h4, keep_row r.r5 rfl h2 h5, h1, below_set r.bel hb⟩
theorem RW.less (r : RW w wr n b4 c4 b5 c5 b7 c7 h dn) (h45 : b4 ≠ b5) (h4 : b4 ≠ b7) (h5 : b5 ≠ b7) (hb4 : w.heap.size ≤ b4) (hb5 : w.heap.size ≤ b5) (k : Nat) (p : P) :
  RW w ((wr.setCell ⟨b4, k, none⟩ (.int .i64 p.1)).setCell ⟨b5, k, none⟩ (.int .i64 p.2)) n b4 c4 b5 c5 b7 c7 (put h k p) dn := by
 obtain ⟨h1, h2⟩ := ri_put r.r4 k p.1
 have r5 := keep_row r.r5 rfl h2 h45.symm
 have r7 := keep_row r.r7 rfl h2 h4.symm
 obtain ⟨h3, h6⟩ := ri_put r5 k p.2
 refine ⟨?_, ?_, keep_row r7 rfl h6 h5.symm, below_set (below_set r.bel hb4) hb5⟩
 ·rw [put_fst]
  exact keep_row h1 rfl h6 h45
 ·rw [put_snd]
  exact h3
end
def atI : Option Nat → Int
 | none => -1
 | some a => (a : Int)
def Best (h : Nat → P) (dn : Nat → Bool) (k : Nat) : Option Nat → Prop
 | none => ∀ j, j < k → dn j = false → (h j).1 < 0
 | some a => a < k ∧ dn a = false ∧ 0 ≤ (h a).1 ∧ ∀ j, j < k → dn j = false → 0 ≤ (h j).1 → Price.le (h a) (h j)
section
variable {h : Nat → P} {dn : Nat → Bool} {k : Nat}
theorem best_skip {o : Option Nat} (hb : Best h dn k o) (hs : dn k = true ∨ (h k).1 < 0) : Best h dn (k + 1) o := by
 have hk : ∀ j, j < k + 1 → dn j = false → 0 ≤ (h j).1 → j < k := fun j hj h1 h2 => by
  by_cases e : j = k
  ·subst e
   rcases hs with h3 | h3
   ·rw [h3] at h1; cases h1
   ·omega
  ·omega
 cases o with
 | none =>
  intro j hj h1
  by_cases h2 : 0 ≤ (h j).1
  ·exact hb j (hk j hj h1 h2) h1
  ·omega
 | some a => exact ⟨by have := hb.1; omega, hb.2.1, hb.2.2.1, fun j hj h1 h2 => hb.2.2.2 j (hk j hj h1 h2) h1 h2⟩
theorem best_first (hb : Best h dn k none) (h1 : dn k = false) (h2 : 0 ≤ (h k).1) : Best h dn (k + 1) (some k) := ⟨by omega, h1, h2, fun j hj h3 h4 => by
 by_cases e : j = k
 ·subst e; exact Price.le_refl _
 ·have := hb j (by omega) h3; omega⟩
theorem best_less {a : Nat} (hb : Best h dn k (some a)) (h1 : dn k = false) (h2 : 0 ≤ (h k).1) (hl : Price.lt (h k) (h a)) : Best h dn (k + 1) (some k) := ⟨by omega, h1, h2, fun j hj h3 h4 => by
 by_cases e : j = k
 ·subst e; exact Price.le_refl _
 ·exact Price.le_trans (Price.le_of_lt hl) (hb.2.2.2 j (by omega) h3 h4)⟩
theorem best_keep {a : Nat} (hb : Best h dn k (some a)) (hl : ¬ Price.lt (h k) (h a)) : Best h dn (k + 1) (some a) := ⟨by have := hb.1; omega, hb.2.1, hb.2.2.1, fun j hj h3 h4 => by
 by_cases e : j = k
 ·subst e; exact Price.not_lt.1 hl
 ·exact hb.2.2.2 j (by omega) h3 h4⟩
end
def c0 (k : Nat) : Nat → Int := fun j => if j < k then -1 else 0
theorem c0_put (k : Nat) : put (c0 k) k (-1) = c0 (k + 1) := by
 funext j
 unfold put c0
 by_cases e : j = k
 ·subst e
  simp
 ·have : j < k + 1 ↔ j < k := by omega
  simp [e, this]
def h0 : Nat → P := fun k => if k = 0 then (0, 0) else (-1, 0)
theorem h0_fst {n : Nat} : ∀ k, k < n → put (c0 n) 0 0 k = (h0 k).1 := fun k hk => by
 unfold put c0 h0
 by_cases e : k = 0
 ·simp [e]
 ·simp [e, hk]
theorem h0_snd : ∀ k, (0 : Int) = (h0 k).2 := fun k => by
 unfold h0
 by_cases e : k = 0
 ·simp [e]
 ·simp [e]
theorem nxS_none {l : List SN} {k i : Nat} {z : SN} (hz : l[k]? = some z) (h : nxI z i < 0) : nxS l k i = none := by
 unfold nxS
 rw [hz]
 simp only
 rw [if_pos h]
theorem nxS_some {l : List SN} {k i j : Nat} {z : SN} (hz : l[k]? = some z) (h : nxI z i = (j : Int)) : nxS l k i = some j := by
 unfold nxS
 rw [hz]
 simp only
 rw [h, if_neg (by omega), Int.toNat_natCast]
theorem below_none {w w1 : World} (h : w.grownBy w1 none) : Below w.heap.size w w1 := ⟨h.os, h.tape, h.output, h.size, fun k hk => h.block k hk (by simp)⟩
def wyc.T1 : Bool × List (List Nat × List Nat) := (true, [([], []), ([0], [0]), ([1, 1], [1]), ([], []), ([3], [3]), ([4, 4], [4]), ([2, 0, 1, 2], [2]), ([5, 6, 0, 1, 2, 3, 4, 5, 6], [5])])
def wyc.B1 : List Nat := [0, 1, 3, 0, 8, 24, 7, 127]
theorem wyc.tab1 : rtab .any (opsOf Tryd.f11 1) = wyc.T1 := by kernel_rfl
theorem wyc.bits1 : waitsOk wyc.T1.2 wyc.B1 = true := by kernel_rfl
theorem costs_walk (A0 : Option Addr) (c1 : Nat) (l : List SN) (w : World) (hr0 : Kd.C kNd w A0 l.length l) (hc0 : l.length ≤ c1) (hG : Graph l.length (nxS l) (topS l)) :
  Calls Tryd.prog 11 #[.slice A0 l.length c1] w fun e w' => ∃ (v0_ v1_ : Value) (h : Nat → P) (dn : Nat → Bool), e = .returned (.tuple #[v0_, v1_]) ∧ Dij l.length (nxS l) (topS l) h dn ∧ (∀ k, k < l.length → 0 ≤ (h k).1 → dn k = true) ∧
   Kd.R (Kd.int .i64) 3 w' w.heap.size (fun _ => True) v0_ (rowF l.length fun k => (h k).1) ∧ Kd.R (Kd.int .i64) 3 w' w.heap.size (fun _ => True) v1_ (rowF l.length fun k => (h k).2) ∧ Below w.heap.size w w' := by
 obtain ⟨ad, rfl⟩ : ∃ ad, A0 = some ad := by
  obtain ⟨ad, e, _⟩ := at_T44 hr0 0 (Int.le_refl 0) (by have := hG.pos; omega)
  exact ⟨ad, e⟩
 have HC := hid hr0
 obtain ⟨n, hn⟩ : ∃ n, n = l.length := ⟨_, rfl⟩
 have hn9 : n ≤ 900 := by rw [hn]; exact hG.small
 rw [← hn] at hG ⊢
 have HG := hid hG
 have HN := hid hn
 have HN9 := hid hn9
 have HB := hid (Below.refl w.heap.size w)
 clear hr0 hc0 hG hn hn9
 go_enter Tryd.func11, Tryd.ntmps11
 go_upto_region 1 with fail
 refine start_ (n := 8) (S := fun w' => True) (ds := []) #[ff, ff, ff, ff, ff, ff, ff, ff] (by kernel_rfl) rfl rfl trivial (fun hHeld => ?_)
 refine with_tabW wyc.tab1 wyc.bits1 (fun HT_ HW_ => ?_)
 have n_HB := hid (below_drew HB.out)
 clear HB
 have HB := n_HB
 clear n_HB
 generalize World.drew _ = w1_ at HB hHeld ⊢
 have NE := hid True.intro
 refine pure_ (i := 0) (N := some 14) (v := ?_) (a' := ?_) #[tt, ff, ff, ff, ff, ff, ff, ff] rfl rfl (any_of HT_.out (by kernel_rfl)) (fun _ _ _ h => h) (Or.inl ⟨by rfl, ?_⟩) ?_ ?_
 rotate_left
 ·intro w'
  go_simp
  with_reducible rfl
 rotate_left
 ·simp only [Act.put, List.setIfInBounds_toArray, List.set_cons_zero, List.set_cons_succ, i64_w, i32_w]
  rfl
 refine pure_ (i := 1) (N := some 15) (v := ?_) (a' := ?_) #[tt, tt, ff, ff, ff, ff, ff, ff] rfl rfl (any_of HT_.out (by kernel_rfl)) (fun _ _ _ h => h) (Or.inl ⟨by rfl, ?_⟩) ?_ ?_
 rotate_left
 ·intro w'
  go_simp
  with_reducible rfl
 rotate_left
 ·simp only [Act.put, List.setIfInBounds_toArray, List.set_cons_zero, List.set_cons_succ, i64_w, i32_w]
  rfl
 refine pure_ (i := 3) (N := some 17) (v := ?_) (a' := ?_) #[tt, tt, ff, tt, ff, ff, ff, ff] rfl rfl (any_of HT_.out (by kernel_rfl)) (fun _ _ _ h => h) (Or.inl ⟨by rfl, ?_⟩) ?_ ?_
 rotate_left
 ·intro w'
  go_simp
  with_reducible rfl
 rotate_left
 ·simp only [Act.put, List.setIfInBounds_toArray, List.set_cons_zero, List.set_cons_succ, i64_w, i32_w]
  rfl
 refine pure_ (i := 4) (N := some 18) (v := ?_) (a' := ?_) #[tt, tt, ff, tt, tt, ff, ff, ff] rfl rfl (any_of HT_.out (by kernel_rfl)) (fun _ _ _ h => h) (Or.inl ⟨by rfl, ?_⟩) ?_ ?_
 rotate_left
 ·intro w'
  go_simp
  with_reducible rfl
 rotate_left
 ·simp only [Act.put, List.setIfInBounds_toArray, List.set_cons_zero, List.set_cons_succ, i64_w, i32_w]
  rfl
 refine inv_at [2, 5, 6, 7] (fun a0_ b a w' => ∃ (u4_ : Value) (u5_ : Value) (m6_ : Value) (m7_ : Value), a = putSel a0_ b [(2, 16, u4_), (5, 19, u5_), (6, 4, m6_), (7, 5, m7_)] ∧ (Below w.heap.size w w') ∧ ((∀ k_, u4_.ownBlock = some k_ → k_ < w'.heap.size ∧ u5_.ownBlock ≠ some k_) ∧ (∀ k_, u5_.ownBlock = some k_ → k_ < w'.heap.size)) ∧ (b 2 = true → Kd.R (Kd.int .i64) 3 w' w.heap.size (fun _ => True) u4_ (List.replicate n 0)) ∧ (b 5 = true → Kd.R (Kd.int .i64) 3 w' w.heap.size (fun _ => True) u5_ (List.replicate n 0)) ∧ (b 6 = true → (m6_ : Value) = u4_) ∧ (b 7 = true → (m7_ : Value) = u5_)) HT_.out HW_.out (by kernel_rfl) (by kernel_rfl) ?_ ?_ ?_
 ·exact ⟨.bool false, .bool false, .bool false, .bool false, by simp only [putSel, Bool.false_eq_true, if_false], HB.out, ⟨fun k_ h_ => by simp [Value.ownBlock] at h_, fun k_ h_ => by simp [Value.ownBlock] at h_⟩, fun h_ => absurd h_ (by decide), fun h_ => absurd h_ (by decide), fun h_ => absurd h_ (by decide), fun h_ => absurd h_ (by decide)⟩
 ·skip
  clear HB NE
  refine steps_cons ?_ ?_
  ·rintro b a w' ⟨u4_, u5_, m6_, m7_, ha, Q_HB, Q_NE, Q_U4, Q_U5, Q_X6_, Q_X7_⟩ hb_ hon hoff
   refine ⟨_, rfl, fun K hK => ?_⟩
   have e15 : a.tmps[15]? = some (.int .i64 (n : Int)) := by rw [ha]; exact (putSel_off rfl).trans rfl
   replace ha := am ha
   have HB := am Q_HB
   have NE := am Q_NE
   refine Kd.R_make_step (Kd.int .i64) (w0 := w) w.heap.size 3 (by rfl) rfl 39 (.tmp 15) (.tmp 15) rfl (n : Int) (eval_of e15) (eval_of e15) Tryd.underlying39 (.int .i64 0) 8 infoI rfl (by decide) (by decide) 0 (ok := fun _ => True) (okp := fun _ => True) rfl (fun _ _ => trivial) trivial (by omega) (by have h_ := HN9.out; omega) HB.out HB.out.size ?_
   intro v1 w1 ho hb hg hat
   refine hK.out _ _ ⟨v1, u5_, m6_, m7_, (by rw [ha.out]; exact putSel_upk 0 hb_ rfl rfl rfl), hb, ⟨fun k_ e_ => ⟨Kd.R_lt ho k_ e_, fun h5_ => by obtain ⟨b_, hb_, hs_⟩ := hat; rw [hb_] at e_; injection e_ with e_; have h_ := NE.out.2 k_ h5_; omega⟩, fun k_ e_ => Nat.lt_of_lt_of_le (NE.out.2 k_ e_) hg.size⟩, fun _ => by simpa using ho, fun h0_ => Kd.R_below (Q_U5 h0_) (below_none hg), fun h0_ => absurd ((hoff 6 (by kernel_rfl)).symm.trans h0_) (by decide), fun h0_ => absurd ((hoff 7 (by kernel_rfl)).symm.trans h0_) (by decide)⟩
  refine steps_cons ?_ ?_
  ·rintro b a w' ⟨u4_, u5_, m6_, m7_, ha, Q_HB, Q_NE, Q_U4, Q_U5, Q_X6_, Q_X7_⟩ hb_ hon hoff
   refine ⟨_, rfl, fun K hK => ?_⟩
   have e18 : a.tmps[18]? = some (.int .i64 (n : Int)) := by rw [ha]; exact (putSel_off rfl).trans rfl
   replace ha := am ha
   have HB := am Q_HB
   have NE := am Q_NE
   refine Kd.R_make_step (Kd.int .i64) (w0 := w) w.heap.size 3 (by rfl) rfl 39 (.tmp 18) (.tmp 18) rfl (n : Int) (eval_of e18) (eval_of e18) Tryd.underlying39 (.int .i64 0) 8 infoI rfl (by decide) (by decide) 0 (ok := fun _ => True) (okp := fun _ => True) rfl (fun _ _ => trivial) trivial (by omega) (by have h_ := HN9.out; omega) HB.out HB.out.size ?_
   intro v1 w1 ho hb hg hat
   refine hK.out _ _ ⟨u4_, v1, m6_, m7_, (by rw [ha.out]; exact putSel_upk 1 hb_ rfl rfl rfl), hb, ⟨fun k_ e_ => ⟨Nat.lt_of_lt_of_le (NE.out.1 k_ e_).1 hg.size, fun h5_ => by obtain ⟨b_, hb_, hs_⟩ := hat; rw [hb_] at h5_; injection h5_ with h5_; have h_ := (NE.out.1 k_ e_).1; omega⟩, fun k_ e_ => Kd.R_lt ho k_ e_⟩, fun h0_ => Kd.R_below (Q_U4 h0_) (below_none hg), fun _ => by simpa using ho, Q_X6_, fun h0_ => absurd ((hoff 7 (by kernel_rfl)).symm.trans h0_) (by decide)⟩
  refine steps_cons ?_ ?_
  ·rintro b a w' ⟨u4_, u5_, m6_, m7_, ha, Q_HB, Q_NE, Q_U4, Q_U5, Q_X6_, Q_X7_⟩ hb_ hon hoff
   refine ⟨_, rfl, fun K hK => ?_⟩
   have e16 : a.tmps[16]? = some (u4_) := by rw [ha]; exact putSel_on (e := (2, 16, u4_)) 0 rfl rfl (hon 2 (by kernel_rfl)) rfl
   replace ha := am ha
   have HB := am Q_HB
   have NE := am Q_NE
   have U4 := am (Q_U4 (hon 2 (by kernel_rfl)))
   refine value_ (w1 := w') (v := u4_) (by rfl) rfl ?_ ?_
   ·go_simp
    (try simp only [i64_w])
    try rfl
   refine hK.out _ _ ⟨u4_, u5_, (u4_), m7_, (by rw [ha.out]; exact putSel_upk 2 hb_ rfl rfl rfl), Q_HB, Q_NE, Q_U4, Q_U5, fun _ => rfl, fun h0_ => absurd ((hoff 7 (by kernel_rfl)).symm.trans h0_) (by decide)⟩
  refine steps_cons ?_ ?_
  ·rintro b a w' ⟨u4_, u5_, m6_, m7_, ha, Q_HB, Q_NE, Q_U4, Q_U5, Q_X6_, Q_X7_⟩ hb_ hon hoff
   refine ⟨_, rfl, fun K hK => ?_⟩
   have e19 : a.tmps[19]? = some (u5_) := by rw [ha]; exact putSel_on (e := (5, 19, u5_)) 1 rfl rfl (hon 5 (by kernel_rfl)) rfl
   replace ha := am ha
   have HB := am Q_HB
   have NE := am Q_NE
   have U4 := am (Q_U4 (hon 2 (by kernel_rfl)))
   have U5 := am (Q_U5 (hon 5 (by kernel_rfl)))
   refine value_ (w1 := w') (v := u5_) (by rfl) rfl ?_ ?_
   ·go_simp
    (try simp only [i64_w])
    try rfl
   refine hK.out _ _ ⟨u4_, u5_, m6_, (u5_), (by rw [ha.out]; exact putSel_upk 3 hb_ rfl rfl rfl), Q_HB, Q_NE, Q_U4, Q_U5, Q_X6_, fun _ => rfl⟩
  exact steps_nil
 ·rintro b a w' hall ⟨u4_, u5_, m6_, m7_, ha, Q_HB, Q_NE, Q_U4, Q_U5, Q_X6_, Q_X7_⟩
  clear HB NE
  have hb2_ := hall 2 (by kernel_rfl)
  have hb5_ := hall 5 (by kernel_rfl)
  have hb6_ := hall 6 (by kernel_rfl)
  have hb7_ := hall 7 (by kernel_rfl)
  subst ha
  obtain rfl := Q_X6_ hb6_
  obtain rfl := Q_X7_ hb7_
  simp only [putSel, hb2_, hb5_, hb6_, hb7_, if_true, Act.put, List.setIfInBounds_toArray, List.set_cons_zero, List.set_cons_succ]
  have HB := am Q_HB
  clear Q_HB
  have NE := am Q_NE
  clear Q_NE
  have U4 := am (Q_U4 hb2_)
  clear Q_U4
  have U5 := am (Q_U5 hb5_)
  clear Q_U5
  clear hall hb2_ hb5_ hb6_ hb7_
  obtain ⟨b4, c4, hv4, hb4, hs4⟩ := R_form U4.out (by rw [List.length_replicate]; exact HG.out.pos)
  obtain ⟨b5, c5, hv5, hb5, hs5⟩ := R_form U5.out (by rw [List.length_replicate]; exact HG.out.pos)
  rw [List.length_replicate] at hv4 hv5
  have H45 := hid (show b4 ≠ b5 from fun e_ => (NE.out.1 b4 (by rw [hv4]; rfl)).2 (by rw [hv5, e_]; rfl))
  have HB4 := hid hb4
  have HB5 := hid hb5
  have R4 := hid (show RI w w' b4 n c4 (c0 0) by
   have h_ := U4.out
   rw [row_rep, hv4] at h_
   exact h_)
  have R5 := hid (show RI w w' b5 n c5 (fun _ => 0) by
   have h_ := U5.out
   rw [row_rep, hv5] at h_
   exact h_)
  subst hv4 hv5
  clear U4 U5 NE hb4 hb5 hs4 hs5
  go_wp2_with fail
  go_loopw [22] (fun v22 wr => ∃ k : Nat, v22 = .int .i64 (k : Int) ∧ k ≤ n ∧ RI w wr b4 n c4 (c0 k) ∧ RI w wr b5 n c5 (fun _ => 0) ∧ Below w.heap.size w wr) (fun v22 _ => n - (intOf v22).toNat)
  case atStart => exact ⟨0, rfl, Nat.zero_le _, R4.out, R5.out, HB.out⟩
  case round =>
   clear R4 R5 HB
   obtain ⟨k, rfl, hk, h4, h5, hB⟩ := hrel
   have HB := hid hB
   have R4 := hid h4
   have R5 := hid h5
   clear h4 h5 hB
   by_cases hlt : k < n
   ·have HLT := hid hlt
    obtain ⟨p1_, p2_⟩ := sc_cell R4.out k _ (row_at (c0 k) hlt)
    have h_ := ri_put R4.out k (-1)
    rw [c0_put] at h_
    have n_R4 := hid h_.1
    have n_R5 := hid (keep_row R5.out rfl h_.2 H45.out.symm)
    have n_HB := hid (show Below w.heap.size w (wr.setCell ⟨b4, k, none⟩ (.int .i64 (-1))) from below_set HB.out HB4.out)
    have hk0 : (0 : Int) ≤ (k : Int) := by omega
    have hk1 : (k : Int) < (n : Int) := by omega
    have hk9 : n ≤ 900 := HN9.out
    clear hlt h_
    go_upto_region 6 with fail
    clear R4 R5 HB p1_ p2_
    generalize World.setCell _ _ _ = w5 at n_R4 n_R5 n_HB ⊢
    go_wp2_with fail
    go_roundw
    case rel => exact ⟨k + 1, by have := HLT.out; have := HN9.out; go_num, HLT.out, n_R4.out, n_R5.out, n_HB.out⟩
    case measure =>
     have := HLT.out
     simp [intOf]
     omega
   ·obtain rfl : k = n := by omega
    have hge : ¬ ((k : Int) < (k : Int)) := by omega
    obtain ⟨p1_, p2_⟩ := sc_cell R4.out 0 _ (row_at (c0 k) HG.out.pos)
    have h_ := ri_put R4.out 0 0
    have n_R4 := hid (show RI w (wr.setCell ⟨b4, 0, none⟩ (.int .i64 0)) b4 k c4 (fun j => (h0 j).1) by
     have h2_ := h_.1
     unfold RI at h2_
     rw [row_congr h0_fst] at h2_
     exact h2_)
    have n_R5 := hid (show RI w (wr.setCell ⟨b4, 0, none⟩ (.int .i64 0)) b5 k c5 (fun j => (h0 j).2) by
     have h2_ := keep_row R5.out rfl h_.2 H45.out.symm
     rw [row_congr (fun j _ => h0_snd j)] at h2_
     exact h2_)
    have n_HB := hid (show Below w.heap.size w (wr.setCell ⟨b4, 0, none⟩ (.int .i64 0)) from below_set HB.out HB4.out)
    have hpos : (0 : Int) < (k : Int) := by have := HG.out.pos; omega
    clear hlt hk h_
    go_upto_region 8 with fail
    clear R4 R5 HB p1_ p2_ hge hpos
    have HB := n_HB
    have R4 := n_R4
    have R5 := n_R5
    clear n_HB n_R4 n_R5
    generalize World.setCell _ _ _ = w7 at HB R4 R5 ⊢
    go_wp2_with (first | ((with_reducible refine gate_dst (N := 33) rfl ?_); refine Kd.R_make Kd.bool (w0 := w) w.heap.size 4 rfl (N := 33) rfl 45 (.tmp 32) (.tmp 32) rfl (k : Int) rfl rfl Tryd.underlying45 (.bool false) 1 infoBl rfl (by decide) (by decide) false (ok := fun _ => True) (okp := fun _ => True) rfl (fun _ _ => trivial) trivial (by omega) (by have h_ := HN9.out; omega) HB.out HB.out.size ?_; intro v7 w8 ho hb hg hat; rw [Int.toNat_natCast] at ho; have R7 := hid ho; have HNE := hid (show ∀ k_, v7.ownBlock = some k_ → b4 ≠ k_ ∧ b5 ≠ k_ from fun k_ e_ => by obtain ⟨b_, hb_, hs_⟩ := hat; rw [hb_] at e_; injection e_ with e_; have h4_ := Kd.R_lt R4.out b4 rfl; have h5_ := Kd.R_lt R5.out b5 rfl; omega); have n_R4 := hid (Kd.R_below R4.out (below_none hg)); have n_R5 := hid (Kd.R_below R5.out (below_none hg)); clear HB R4 R5; have HB := hid hb; have R4 := n_R4; have R5 := n_R5; clear n_R4 n_R5 ho hb hg hat))
    obtain ⟨b7, c7, hv7, hb7, _⟩ := R_form R7.out (by rw [List.length_replicate]; exact HG.out.pos)
    rw [List.length_replicate] at hv7
    have H47 := hid (show b4 ≠ b7 from HNE.out b7 (by rw [hv7]; rfl) |>.1)
    have H57 := hid (show b5 ≠ b7 from HNE.out b7 (by rw [hv7]; rfl) |>.2)
    have HB7 := hid hb7
    have HR := hid (show RW w w8 k b4 c4 b5 c5 b7 c7 h0 (fun _ => false) from ⟨R4.out, R5.out, by
     have h_ := R7.out
     rw [row_rep, hv7] at h_
     exact h_, HB.out⟩)
    subst hv7
    clear HNE R4 R5 R7 HB hb7
    have HD := hid (Price.dij_start (n := k) (nx := nxS l) (top := topS l) HG.out.pos)
    go_loopg [8] (left (fun _ => false) k + 1) (fun gk v8 wr => ∃ (h : Nat → P) (dn : Nat → Bool), gk = left dn k + 1 ∧ Dij k (nxS l) (topS l) h dn ∧ RW w wr k b4 c4 b5 c5 b7 c7 h dn)
    case atStart => exact ⟨h0, _, rfl, HD.out, HR.out⟩
    case round =>
     clear HR HD
     obtain ⟨h, dn, hgk, hD, hR⟩ := hrel
     have HR := hid hR
     have HD := hid hD
     have HGK := hid hgk
     clear hgk hD hR
     go_wp2_with fail
     go_loopw [8, 36] (fun v8 v36 wi => ∃ (q : Nat) (o : Option Nat), v8 = .int .i64 (atI o) ∧ v36 = .int .i64 (q : Int) ∧ q ≤ k ∧ Best h dn q o ∧ RW w wi k b4 c4 b5 c5 b7 c7 h dn) (fun _ v36 _ => k - (intOf v36).toNat)
     case atStart => exact ⟨0, none, rfl, rfl, Nat.zero_le _, (fun j hj => absurd hj (Nat.not_lt_zero _)), HR.out⟩
     case round =>
      clear HR
      obtain ⟨q, o, rfl, rfl, hq, hBe, hR⟩ := hrel
      have HR := hid hR
      have HBE := hid hBe
      clear hR hBe
      by_cases hlt : q < k
      ·have HLT := hid hlt
       have hq0 : (0 : Int) ≤ (q : Int) := by omega
       have hq1 : (q : Int) < (k : Int) := by omega
       have hk9 : k ≤ 900 := HN9.out
       obtain ⟨d7_, _⟩ := sc_cell HR.out.r7 q _ (row_at dn hlt)
       obtain ⟨dq, hdq⟩ : ∃ dq, dq = dn q := ⟨_, rfl⟩
       rw [← hdq] at d7_
       have HDQ := hid hdq
       clear hdq
       obtain ⟨⟨cq, rq⟩, hcq⟩ : ∃ p, p = h q := ⟨_, rfl⟩
       obtain ⟨c4_, _⟩ := sc_cell HR.out.r4 q _ (row_at (fun j => (h j).1) hlt)
       obtain ⟨r5_, _⟩ := sc_cell HR.out.r5 q _ (row_at (fun j => (h j).2) hlt)
       simp only [← hcq] at c4_ r5_
       have HCQ := hid hcq
       clear hcq hlt
       cases dq with
       | true =>
        go_wp2_with fail
        go_quiet (fail)
        go_wp2_with fail
        go_roundw
        case rel => exact ⟨q + 1, o, rfl, by go_num, HLT.out, best_skip HBE.out (.inl HDQ.out.symm), HR.out.drewN _⟩
        case measure =>
         have := HLT.out
         simp [intOf]
         omega
       | false =>
        by_cases hc0 : 0 ≤ cq
        ·have hd0 : decide (0 ≤ cq) = true := decide_eq_true hc0
         cases o with
         | none =>
          have ha0 : atI none = -1 := rfl
          rw [ha0]
          clear ha0
          go_wp2_with fail
          go_quiet (fail)
          go_wp2_with fail
          go_roundw
          case rel => exact ⟨q + 1, some q, rfl, by go_num, HLT.out, best_first HBE.out HDQ.out.symm (by rw [← HCQ.out]; exact hc0), HR.out.drewN _⟩
          case measure =>
           have := HLT.out
           simp [intOf]
           omega
         | some a_ =>
          obtain ⟨p, hp⟩ : ∃ p, p = a_ := ⟨_, rfl⟩
          subst hp
          have ha0 : atI (some p) = (p : Int) := rfl
          rw [ha0]
          clear ha0
          have hpk : p < k := by have := HBE.out.1; omega
          have hp0 : (0 : Int) ≤ (p : Int) := by omega
          have hp1 : (p : Int) < (k : Int) := by omega
          have hpn : decide ((p : Int) < 0) = false := decide_eq_false (by omega)
          obtain ⟨⟨cp, rp⟩, hcp⟩ : ∃ x, x = h p := ⟨_, rfl⟩
          obtain ⟨c6_, _⟩ := sc_cell HR.out.r4 p _ (row_at (fun j => (h j).1) hpk)
          obtain ⟨r6_, _⟩ := sc_cell HR.out.r5 p _ (row_at (fun j => (h j).2) hpk)
          simp only [← hcp] at c6_ r6_
          have HCP := hid hcp
          clear hcp
          have HLTI := hid (show Price.lt (h q) (h p) ↔ cq < cp ∨ (cq = cp ∧ rq < rp) by rw [← HCQ.out, ← HCP.out]; exact Iff.rfl)
          have HC0 := hid (show 0 ≤ (h q).1 by rw [← HCQ.out]; exact hc0)
          by_cases h1 : cq < cp
          ·have e1_ : decide (cq < cp) = true := decide_eq_true h1
           have HL := hid (HLTI.out.2 (.inl h1))
           go_wp2_with fail
           go_quiet (fail)
           go_wp2_with fail
           go_roundw
           case rel => exact ⟨q + 1, some q, rfl, by go_num, HLT.out, best_less HBE.out HDQ.out.symm HC0.out HL.out, HR.out.drewN _⟩
           case measure =>
            have := HLT.out
            simp [intOf]
            omega
          ·have e1_ : decide (cq < cp) = false := decide_eq_false h1
           by_cases h2 : cq = cp
           ·subst h2
            have e2_ : decide (cq = cq) = true := decide_eq_true rfl
            by_cases h3 : rq < rp
            ·have e3_ : decide (rq < rp) = true := decide_eq_true h3
             have HL := hid (HLTI.out.2 (.inr ⟨rfl, h3⟩))
             go_wp2_with fail
             go_quiet (fail)
             go_wp2_with fail
             go_roundw
             case rel => exact ⟨q + 1, some q, rfl, by go_num, HLT.out, best_less HBE.out HDQ.out.symm HC0.out HL.out, HR.out.drewN _⟩
             case measure =>
              have := HLT.out
              simp [intOf]
              omega
            ·have e3_ : decide (rq < rp) = false := decide_eq_false h3
             have HL := hid (show ¬ Price.lt (h q) (h p) from fun h_ => by rcases HLTI.out.1 h_ with h_ | h_ <;> omega)
             go_wp2_with fail
             go_quiet (fail)
             go_wp2_with fail
             go_roundw
             case rel => exact ⟨q + 1, some p, rfl, by go_num, HLT.out, best_keep HBE.out HL.out, HR.out.drewN _⟩
             case measure =>
              have := HLT.out
              simp [intOf]
              omega
           ·have e2_ : decide (cq = cp) = false := decide_eq_false h2
            have HL := hid (show ¬ Price.lt (h q) (h p) from fun h_ => by rcases HLTI.out.1 h_ with h_ | h_ <;> omega)
            go_wp2_with fail
            go_quiet (fail)
            go_wp2_with fail
            go_roundw
            case rel => exact ⟨q + 1, some p, rfl, by go_num, HLT.out, best_keep HBE.out HL.out, HR.out.drewN _⟩
            case measure =>
             have := HLT.out
             simp [intOf]
             omega
        ·have hd0 : decide (0 ≤ cq) = false := decide_eq_false hc0
         go_wp2_with fail
         go_quiet (fail)
         go_wp2_with fail
         go_roundw
         case rel => exact ⟨q + 1, o, rfl, by go_num, HLT.out, best_skip HBE.out (.inr (by rw [← HCQ.out]; simpa using hc0)), HR.out.drewN _⟩
         case measure =>
          have := HLT.out
          simp [intOf]
          omega
      ·obtain rfl : q = k := by omega
       have hge : ¬ ((q : Int) < (q : Int)) := by omega
       clear hlt hq
       cases o with
       | none =>
        have ha0 : atI none = -1 := rfl
        rw [ha0]
        clear ha0
        go_wp2_with fail
        go_ret2
        exact ⟨_, _, rfl, h, dn, HD.out, (fun j hj h1 => by
         cases hd_ : dn j with
         | true => rfl
         | false => have := HBE.out j hj hd_; omega), HR.out.r4, HR.out.r5, HR.out.bel⟩
       | some a_ =>
        obtain ⟨p, hp⟩ : ∃ p, p = a_ := ⟨_, rfl⟩
        subst hp
        have ha0 : atI (some p) = (p : Int) := rfl
        rw [ha0]
        clear ha0
        have hpk := HBE.out.1
        have HPK := hid hpk
        have hp0 : (0 : Int) ≤ (p : Int) := by omega
        have hp1 : (p : Int) < (q : Int) := by omega
        have hpn : decide ((p : Int) < 0) = false := decide_eq_false (by omega)
        obtain ⟨p1_, p2_⟩ := sc_cell HR.out.r7 p _ (row_at dn hpk)
        have n_HR := hid (HR.out.done H47.out H57.out HB7.out p)
        have HM := hid (Price.dij_pick HD.out hpk HBE.out.2.1 HBE.out.2.2.1 (fun j hj h1 h2 => HBE.out.2.2.2 j hj h1 h2))
        have HLE := hid (Price.left_put hpk HBE.out.2.1)
        obtain ⟨z, hz⟩ : ∃ z, l[p]? = some z := ⟨_, List.getElem?_eq_getElem (by rw [← HN.out]; exact hpk)⟩
        have HZ := hid hz
        obtain ⟨dn2, hdn2⟩ : ∃ dn2, dn2 = put dn p true := ⟨_, rfl⟩
        rw [← hdn2] at n_HR HM HLE
        clear hpk hz hdn2
        go_upto_region 19 with fail
        clear HR p1_ p2_ hge HBE HD
        have HR := n_HR
        clear n_HR
        generalize World.setCell _ _ _ = w18 at HR ⊢
        obtain ⟨_, m12_, m13_, m14_, m15_⟩ := nd_cells (Kd.C_below HC.out HR.out.bel) p z HZ.out
        go_wp2_with fail
        clear m12_ m13_ m14_ m15_
        go_loopw [102] (fun v102 wi => ∃ (i : Nat) (g : Nat → P), v102 = .int .i64 (i : Int) ∧ i ≤ 4 ∧ Mid q (nxS l) (topS l) g dn2 p i ∧ RW w wi q b4 c4 b5 c5 b7 c7 g dn2) (fun v102 _ => 4 - (intOf v102).toNat)
        case atStart => exact ⟨0, h, rfl, by omega, HM.out, HR.out⟩
        case round =>
         clear HR HM
         obtain ⟨i, g, rfl, hi, hM, hR⟩ := hrel
         have HR := hid hR
         have HM := hid hM
         clear hR hM
         by_cases hi4 : i < 4
         ·have HI := hid hi4
          have hi1 : (i : Int) < 4 := by omega
          have hix_ := index_next z i hi4
          by_cases hneg : nxI z i < 0
          ·obtain ⟨v, hv⟩ : ∃ v, v = nxI z i := ⟨_, rfl⟩
           have HNX := hid (nxS_none HZ.out hneg)
           rw [← hv] at hix_ hneg
           have e1_ : decide (v < 0) = true := decide_eq_true hneg
           clear hi4 hv
           go_wp2_with fail
           go_roundw
           case rel => exact ⟨i + 1, g, by go_num, HI.out, Price.mid_none HM.out HNX.out, HR.out⟩
           case measure =>
            have := HI.out
            simp [intOf]
            omega
          ·obtain ⟨j, hj⟩ : ∃ j : Nat, nxI z i = (j : Int) := ⟨(nxI z i).toNat, by omega⟩
           have HNX := hid (nxS_some HZ.out hj)
           have hjk := HG.out.lt p i j HPK.out hi4 HNX.out
           have HJK := hid hjk
           rw [hj] at hix_
           have hj0 : (0 : Int) ≤ (j : Int) := by omega
           have hj1 : (j : Int) < (q : Int) := by omega
           have e1_ : decide ((j : Int) < 0) = false := decide_eq_false (by omega)
           obtain ⟨d7_, _⟩ := sc_cell HR.out.r7 j _ (row_at dn2 hjk)
           obtain ⟨dj, hdj⟩ : ∃ dj, dj = dn2 j := ⟨_, rfl⟩
           rw [← hdj] at d7_
           have HDJ := hid hdj
           clear hdj hneg hj hjk hi4
           cases dj with
           | true =>
            go_wp2_with fail
            go_roundw
            case rel => exact ⟨i + 1, g, by go_num, HI.out, Price.mid_keep HG.out HM.out HI.out HNX.out (.inl HDJ.out.symm), HR.out⟩
            case measure =>
             have := HI.out
             simp [intOf]
             omega
           | false =>
            obtain ⟨⟨cp, rp⟩, hcp⟩ : ∃ x, x = g p := ⟨_, rfl⟩
            obtain ⟨⟨cj, rj⟩, hcj⟩ : ∃ x, x = g j := ⟨_, rfl⟩
            obtain ⟨c6_, _⟩ := sc_cell HR.out.r4 p _ (row_at (fun j => (g j).1) HPK.out)
            obtain ⟨r6_, _⟩ := sc_cell HR.out.r5 p _ (row_at (fun j => (g j).2) HPK.out)
            simp only [← hcp] at c6_ r6_
            obtain ⟨y, hy⟩ : ∃ y, l[j]? = some y := ⟨_, List.getElem?_eq_getElem (by rw [← HN.out]; exact HJK.out)⟩
            obtain ⟨m2_, _, _, _, _⟩ := nd_cells (Kd.C_below HC.out HR.out.bel) j y hy
            obtain ⟨t, ht⟩ : ∃ t, t = y.f0.f2.f0 := ⟨_, rfl⟩
            rw [← ht] at m2_
            have HT := hid (show topS l j = t by unfold topS; rw [hy, ht])
            have hb_ := HM.out.num p HPK.out (HM.out.fin p HPK.out HM.out.ad)
            have hf_ := HM.out.fin p HPK.out HM.out.ad
            have ht_ := HG.out.top j HJK.out
            rw [← hcp] at hb_ hf_
            rw [HT.out] at ht_
            simp only at hb_ hf_
            have hk9 : q ≤ 900 := HN9.out
            have hw1_ : IntKind.i64.wrap (cp + t) = cp + t := IntWalk.i64_in _ (by omega)
            have hw2_ : IntKind.i64.wrap (rp + 1) = rp + 1 := IntWalk.i64_in _ (by omega)
            have HCP := hid hcp
            have HCJ := hid hcj
            have HE := hid (show edge (topS l) (g p) j = (cp + t, rp + 1) by rw [← HCP.out, ← HT.out]; rfl)
            have HK := hid (show ∀ W_, RW w W_ q b4 c4 b5 c5 b7 c7 g dn2 → RW w ((W_.setCell ⟨b4, j, none⟩ (.int .i64 (cp + t))).setCell ⟨b5, j, none⟩ (.int .i64 (rp + 1))) q b4 c4 b5 c5 b7 c7 (put g j (cp + t, rp + 1)) dn2 from fun W_ h_ => h_.less H45.out H47.out H57.out HB4.out HB5.out j (cp + t, rp + 1))
            clear hy ht hb_ hf_ ht_ hcp hcj
            go_wp2_with fail
            go_quiet (fail)
            have n_HR := hid (HR.out.drewN nq)
            clear HR c6_ r6_ m2_ hw1_ hw2_ d7_
            have HR := n_HR
            clear n_HR
            generalize World.drewN _ _ = w23 at HR ⊢
            obtain ⟨c4_, f4_⟩ := sc_cell HR.out.r4 j _ (row_at (fun j => (g j).1) HJK.out)
            obtain ⟨r5_, f5_⟩ := sc_cell HR.out.r5 j _ (row_at (fun j => (g j).2) HJK.out)
            simp only [← HCJ.out] at c4_ r5_
            obtain ⟨c, hc⟩ : ∃ c, c = cp + t := ⟨_, rfl⟩
            obtain ⟨r, hr⟩ : ∃ r, r = rp + 1 := ⟨_, rfl⟩
            rw [← hc, ← hr] at HE HK ⊢
            have HLTI := hid (show Price.lt (c, r) (g j) ↔ c < cj ∨ (c = cj ∧ r < rj) by rw [← HCJ.out]; exact Iff.rfl)
            clear hc hr
            by_cases hcn : cj < 0
            ·have e2_ : decide (cj < 0) = true := decide_eq_true hcn
             have HL := hid (Price.mid_less HG.out HM.out HI.out HNX.out HDJ.out.symm (.inl (by rw [← HCJ.out]; exact hcn)))
             have n_HR := hid (HK.out w23 HR.out)
             have f6_ : (w23.setCell ⟨b4, j, none⟩ (.int .i64 c)).cell? ⟨b5, j, none⟩ = some (.int .i64 rj) := (World.cell?_setCell_far _ _ _ _ H45.out).trans r5_
             go_wp2_with fail
             generalize World.setCell _ _ _ = w26 at n_HR ⊢
             go_roundw
             case rel => exact ⟨i + 1, _, by go_num, HI.out, (by rw [← HE.out]; exact HL.out), n_HR.out⟩
             case measure =>
              have := HI.out
              simp [intOf]
              omega
            ·have e2_ : decide (cj < 0) = false := decide_eq_false hcn
             by_cases h1 : c < cj
             ·have e3_ : decide (c < cj) = true := decide_eq_true h1
              have HL := hid (Price.mid_less HG.out HM.out HI.out HNX.out HDJ.out.symm (.inr (by rw [HE.out]; exact HLTI.out.2 (.inl h1))))
              have n_HR := hid (HK.out w23 HR.out)
              have f6_ : (w23.setCell ⟨b4, j, none⟩ (.int .i64 c)).cell? ⟨b5, j, none⟩ = some (.int .i64 rj) := (World.cell?_setCell_far _ _ _ _ H45.out).trans r5_
              go_wp2_with fail
              generalize World.setCell _ _ _ = w26 at n_HR ⊢
              go_roundw
              case rel => exact ⟨i + 1, _, by go_num, HI.out, (by rw [← HE.out]; exact HL.out), n_HR.out⟩
              case measure =>
               have := HI.out
               simp [intOf]
               omega
             ·have e3_ : decide (c < cj) = false := decide_eq_false h1
              by_cases h2 : c = cj
              ·subst h2
               have e4_ : decide (c = c) = true := decide_eq_true rfl
               by_cases h3 : r < rj
               ·have e5_ : decide (r < rj) = true := decide_eq_true h3
                have HL := hid (Price.mid_less HG.out HM.out HI.out HNX.out HDJ.out.symm (.inr (by rw [HE.out]; exact HLTI.out.2 (.inr ⟨rfl, h3⟩))))
                have n_HR := hid (HK.out w23 HR.out)
                have f6_ : (w23.setCell ⟨b4, j, none⟩ (.int .i64 c)).cell? ⟨b5, j, none⟩ = some (.int .i64 rj) := (World.cell?_setCell_far _ _ _ _ H45.out).trans r5_
                go_wp2_with fail
                generalize World.setCell _ _ _ = w26 at n_HR ⊢
                go_roundw
                case rel => exact ⟨i + 1, _, by go_num, HI.out, (by rw [← HE.out]; exact HL.out), n_HR.out⟩
                case measure =>
                 have := HI.out
                 simp [intOf]
                 omega
               ·have e5_ : decide (r < rj) = false := decide_eq_false h3
                have HL := hid (Price.mid_keep HG.out HM.out HI.out HNX.out (.inr ⟨by rw [← HCJ.out]; simpa using hcn, by rw [HE.out]; exact fun h_ => by rcases HLTI.out.1 h_ with h_ | h_ <;> omega⟩))
                go_wp2_with fail
                go_roundw
                case rel => exact ⟨i + 1, g, by go_num, HI.out, HL.out, HR.out⟩
                case measure =>
                 have := HI.out
                 simp [intOf]
                 omega
              ·have e4_ : decide (c = cj) = false := decide_eq_false h2
               have HL := hid (Price.mid_keep HG.out HM.out HI.out HNX.out (.inr ⟨by rw [← HCJ.out]; simpa using hcn, by rw [HE.out]; exact fun h_ => by rcases HLTI.out.1 h_ with h_ | h_ <;> omega⟩))
               go_wp2_with fail
               go_roundw
               case rel => exact ⟨i + 1, g, by go_num, HI.out, HL.out, HR.out⟩
               case measure =>
                have := HI.out
                simp [intOf]
                omega
         ·obtain rfl : i = 4 := by omega
          clear hi4
          go_wp2_with fail
          go_roundg (left dn2 q + 1)
          case rel => exact ⟨g, dn2, rfl, Price.mid_dij HM.out, HR.out⟩
          case measure =>
           have := HGK.out
           have := HLE.out
           omega
end Go.Proofs.YtkoejpimalbhbaaDoor.Costs
