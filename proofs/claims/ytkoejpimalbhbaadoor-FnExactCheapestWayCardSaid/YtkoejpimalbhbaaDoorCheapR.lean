/- The reference's CheapestWay, walked. Conditions: none. -/
import Derived.Test.YtkoejpimalbhbaaDoorCosts
import Derived.Test.YtkoejpimalbhbaaDoorCheap
import Derived.Test.YtkoejpimalbhbaaDoorQBwx
namespace Go.Proofs.YtkoejpimalbhbaaDoor.CostF
open Go.RowKit Go.Proofs.YtkoejpimalbhbaaDoorW.PrintWords Go.Proofs.YtkoejpimalbhbaaDoorW.PrintLast Go.Proofs.YtkoejpimalbhbaaDoor.QBs Go.Proofs.YtkoejpimalbhbaaDoor.WyR Go.Proofs.YtkoejpimalbhbaaDoor.PriceG Go.Proofs.YtkoejpimalbhbaaDoor.WyNx Go.Proofs.YtkoejpimalbhbaaDoor.Search
open Go.Proofs.YtkoejpimalbhbaaDoor.Price (Graph leastP)
open Go.Proofs.YtkoejpimalbhbaaDoor.Reach (St)
set_option linter.unusedVariables false
set_option linter.unusedSimpArgs false

def gOk (l : List SN) : Bool := (decide (0 < l.length) && decide (l.length ≤ 900)) && l.all fun z => (decide (0 ≤ z.f0.f2.f0) && decide (z.f0.f2.f0 ≤ 9)) && (List.range 4).all fun d => decide (nxI z d < (l.length : Int))
theorem graph_of {l : List SN} (h : gOk l = true) : Graph l.length (nxS l) (topS l) := by
 unfold gOk at h
 simp only [Bool.and_eq_true, decide_eq_true_eq, List.all_eq_true] at h
 obtain ⟨⟨h1, h2⟩, h3⟩ := h
 refine ⟨fun k d j hk hd hn => ?_, fun j hj => ?_, h1, h2⟩
 ·have hz := h3 l[k] (List.getElem_mem hk)
  have := hz.2 d (List.mem_range.2 hd)
  unfold nxS at hn
  rw [List.getElem?_eq_getElem hk] at hn
  simp only at hn
  by_cases hx : nxI l[k] d < 0
  ·rw [if_pos hx] at hn
   cases hn
  ·rw [if_neg hx] at hn
   injection hn with hn
   omega
 ·have hz := h3 l[j] (List.getElem_mem hj)
  unfold topS
  rw [List.getElem?_eq_getElem hj]
  exact hz.1
section
variable {fl : Int → Int → Bool} {W H : Nat} (hB : Box fl W H) {t : St} (h0 : Gd fl t)
include hB h0
theorem nodes_ok : gOk ((nodes fl W t).map sNd) = true := by
 have hn := nodes_len hB h0
 have hl := found_length hB h0
 have hp := found_pos hB h0
 have hd := found_done hB h0
 have hG := graph hd (fun x hx => (good_iff (found_gd hB h0 hx).2).1) (by omega)
 unfold gOk
 simp only [Bool.and_eq_true, decide_eq_true_eq, List.all_eq_true]
 refine ⟨⟨by omega, by omega⟩, fun z hz => ?_⟩
 obtain ⟨k, hk, rfl⟩ := List.getElem_of_mem hz
 refine ⟨?_, fun d hd4 => ?_⟩
 ·have ht := top_eq hB h0 k
  have := hG.top k (by rw [← hn]; exact hk)
  rw [← ht] at this
  unfold topS at this
  rw [List.getElem?_eq_getElem hk] at this
  exact this
 ·by_cases hx : nxI ((nodes fl W t).map sNd)[k] d < 0
  ·omega
  ·have hd4 := List.mem_range.1 hd4
   have hnx : nxS ((nodes fl W t).map sNd) k d = some (nxI ((nodes fl W t).map sNd)[k] d).toNat := by
    unfold nxS
    rw [List.getElem?_eq_getElem hk]
    simp only
    rw [if_neg hx]
   rw [nx_eq hB h0 k d hd4] at hnx
   have := hG.lt k d _ (by rw [← hn]; exact hk) hd4 hnx
   rw [hn]
   omega
end
end Go.Proofs.YtkoejpimalbhbaaDoor.CostF
namespace Go.Proofs.YtkoejpimalbhbaaDoor.CheapR
open Go.Lib (hid)
open Go.RowKit Go.Proofs.YtkoejpimalbhbaaDoorW.PrintWords Go.Proofs.YtkoejpimalbhbaaDoorW.PrintLast Go.Proofs.YtkoejpimalbhbaaDoor.ReachR Go.Proofs.YtkoejpimalbhbaaDoor.WyR Go.Proofs.YtkoejpimalbhbaaDoor.PriceG Go.Proofs.YtkoejpimalbhbaaDoor.WyNx Go.Proofs.YtkoejpimalbhbaaDoor.Costs Go.Proofs.YtkoejpimalbhbaaDoor.CostF
open Go.Proofs.YtkoejpimalbhbaaDoor.Price (put put_self put_ne left Graph Dij P edge)
open Go.Proofs.YtkoejpimalbhbaaDoor.Cheap (letter letter_size leastT wayT pickF cheap Ref Track Good)
set_option linter.unusedVariables false
set_option linter.unusedSimpArgs false

def TS (l : List SN) (x y : Int) (k : Nat) : Bool := match l[k]? with
 | none => false
 | some z => decide (z.f0.f0 = x) && decide (z.f0.f1 = y)
theorem TS_lt {l : List SN} {x y : Int} {k : Nat} (h : TS l x y k = true) : k < l.length := by
 unfold TS at h
 cases hz : l[k]? with
 | none => rw [hz] at h; cases h
 | some z => exact (List.getElem?_eq_some_iff.1 hz).1
def rOk (l : List SN) : Bool := gOk l && (List.range l.length).all fun k => decide (k = 0) || (List.range k).any fun j => (List.range 4).any fun d => decide (nxS l j d = some k)
theorem reach_of {l : List SN} (h : rOk l = true) : ∀ k, k < l.length → ∃ p, Price.Path (nxS l) (topS l) 0 k p := by
 unfold rOk at h
 simp only [Bool.and_eq_true, List.all_eq_true, List.mem_range, Bool.or_eq_true, decide_eq_true_eq, List.any_eq_true] at h
 intro k
 induction k using Nat.strongRecOn with
 | _ k ih =>
  intro hk
  rcases h.2 k hk with h0 | ⟨j, hj, d, hd, hn⟩
  ·subst h0
   exact ⟨_, .nil 0⟩
  ·obtain ⟨q, hq⟩ := ih j hj (by omega)
   exact ⟨_, hq.trans (Price.Path.one (topS l) hd hn)⟩
theorem dirs_calls (w : World) : Calls Tryd.prog 12 #[] w fun e w' => e = .returned (.string ⟨#[110, 101, 115, 119]⟩) ∧ Below w.heap.size w w' := by
 go_enter Tryd.func12, Tryd.ntmps12
 go_wp2_with fail
 go_ret
 exact ⟨rfl, Below.refl _ _⟩
theorem slice_dir (i : Nat) (hi : i < 4) (W : World) : (Instr.slice 9 (.string ⟨#[110, 101, 115, 119]⟩) (some (.int .i64 (i : Int))) (some (.int .i64 ((i : Int) + 1))) none).run Tryd.prog W = .ok (.string (letter i)) W := by
 rcases i with _ | _ | _ | _ | i
 ·go_simp; rfl
 ·go_simp; rfl
 ·go_simp; rfl
 ·go_simp; rfl
 ·omega
theorem nd_row {w : World} {b : Nat} {l : List SN} (h : Kd.C kNd w (some ⟨b, 0, none⟩) l.length l) (k : Nat) (z : SN) (hz : l[k]? = some z) :
  w.cell? ⟨b, k * 16, none⟩ = some (.int .i64 z.f0.f0) ∧ w.cell? ⟨b, k * 16 + 1, none⟩ = some (.int .i64 z.f0.f1) ∧ w.cell? ⟨b, k * 16 + 2, none⟩ = some (.int .i64 z.f0.f2.f0) ∧ w.cell? ⟨b, k * 16 + 3, none⟩ = some (.int .i64 z.f0.f2.f1) ∧ w.cell? ⟨b, k * 16 + 4, none⟩ = some (.int .i64 z.f0.f2.f2) ∧ w.cell? ⟨b, k * 16 + 5, none⟩ = some (.int .i64 z.f0.f2.f3) ∧ w.cell? ⟨b, k * 16 + 6, none⟩ = some (.int .i64 z.f0.f2.f4) ∧ w.cell? ⟨b, k * 16 + 7, none⟩ = some (.int .i64 z.f0.f2.f5) ∧
  w.cell? ⟨b, k * 16 + 8, none⟩ = some (.int .i64 z.f1) ∧ w.cell? ⟨b, k * 16 + 9, none⟩ = some (.int .i64 z.f2) ∧ w.cell? ⟨b, k * 16 + 10, none⟩ = some (.int .i64 z.f3) ∧ w.cell? ⟨b, k * 16 + 11, none⟩ = some (.int .i64 z.f4) ∧ w.cell? ⟨b, k * 16 + 12, none⟩ = some (.int .i64 z.f5.f0) ∧ w.cell? ⟨b, k * 16 + 13, none⟩ = some (.int .i64 z.f5.f1) ∧ w.cell? ⟨b, k * 16 + 14, none⟩ = some (.int .i64 z.f5.f2) ∧ w.cell? ⟨b, k * 16 + 15, none⟩ = some (.int .i64 z.f5.f3) := by
 have hk := (List.getElem?_eq_some_iff.1 hz).1
 obtain ⟨ad', e0, h0, h1, h2, h3, h4, h5, h6, h7, h8, h9, h10, h11, h12, h13, h14, h15⟩ := QBs.at_T44 h (k : Int) (by omega) (by omega)
 injection e0 with e0
 subst e0
 have hr : QBs.rd_T44 l (k : Int) = z := by simp [QBs.rd_T44, List.getD, hz]
 rw [hr] at h0 h1 h2 h3 h4 h5 h6 h7 h8 h9 h10 h11 h12 h13 h14 h15
 simp only [Int.toNat_natCast, add0] at h0 h1 h2 h3 h4 h5 h6 h7 h8 h9 h10 h11 h12 h13 h14 h15
 exact ⟨h0, h1, h2, h3, h4, h5, h6, h7, h8, h9, h10, h11, h12, h13, h14, h15⟩
def BestT (h : Nat → P) (T : Nat → Bool) (k : Nat) : Option Nat → Prop
 | none => ∀ j, j < k → T j = false
 | some a => a < k ∧ T a = true ∧ ∀ j, j < k → T j = true → Price.le (h a) (h j)
section
variable {h : Nat → P} {T : Nat → Bool} {k : Nat}
theorem bt_skip {o : Option Nat} (hb : BestT h T k o) (hs : T k = false) : BestT h T (k + 1) o := by
 have hk : ∀ j, j < k + 1 → T j = true → j < k := fun j hj h1 => by
  by_cases e : j = k
  ·subst e; rw [hs] at h1; cases h1
  ·omega
 cases o with
 | none =>
  intro j hj
  by_cases e : j = k
  ·subst e; exact hs
  ·exact hb j (by omega)
 | some a => exact ⟨by have := hb.1; omega, hb.2.1, fun j hj h1 => hb.2.2 j (hk j hj h1) h1⟩
theorem bt_first (hb : BestT h T k none) (h1 : T k = true) : BestT h T (k + 1) (some k) := ⟨by omega, h1, fun j hj h3 => by
 by_cases e : j = k
 ·subst e; exact Price.le_refl _
 ·have := hb j (by omega); rw [h3] at this; cases this⟩
theorem bt_less {a : Nat} (hb : BestT h T k (some a)) (h1 : T k = true) (hl : Price.lt (h k) (h a)) : BestT h T (k + 1) (some k) := ⟨by omega, h1, fun j hj h3 => by
 by_cases e : j = k
 ·subst e; exact Price.le_refl _
 ·exact Price.le_trans (Price.le_of_lt hl) (hb.2.2 j (by omega) h3)⟩
theorem bt_keep {a : Nat} (hb : BestT h T k (some a)) (hl : ¬ Price.lt (h k) (h a)) : BestT h T (k + 1) (some a) := ⟨by have := hb.1; omega, hb.2.1, fun j hj h3 => by
 by_cases e : j = k
 ·subst e; exact Price.not_lt.1 hl
 ·exact hb.2.2 j (by omega) h3⟩
end
def ini (h : Nat → P) (T : Nat → Bool) (ps : P) (k : Nat) : Nat → Bool := fun j => decide (j < k) && (T j && decide (h j = ps))
theorem ini_put {h : Nat → P} {T : Nat → Bool} {ps : P} {k : Nat} {v : Bool} (hv : v = (T k && decide (h k = ps))) : put (ini h T ps k) k v = ini h T ps (k + 1) := by
 funext j
 unfold put ini
 by_cases e : j = k
 ·subst e
  simp [hv]
 ·have : j < k + 1 ↔ j < k := by omega
  simp [e, this]
structure GI (n : Nat) (nx : Nat → Nat → Option Nat) (top : Nat → Int) (T : Nat → Bool) (h : Nat → P) (ps : P) (gd : Nat → Bool) : Prop where
 init : ∀ k, k < n → T k = true → h k = ps → gd k = true
 sound : ∀ k, k < n → gd k = true → Track nx top T h ps k
def Sh (nx : Nat → Nat → Option Nat) (top : Nat → Int) (h : Nat → P) (gd : Nat → Bool) (a d : Nat) : Prop := ∀ b, nx a d = some b → gd b = true → h b = edge top (h a) b → gd a = true
theorem gi_start {n : Nat} {nx : Nat → Nat → Option Nat} {top : Nat → Int} {T : Nat → Bool} {h : Nat → P} {ps : P} : GI n nx top T h ps (ini h T ps n) where
 init := fun k hk h1 h2 => by unfold ini; simp [hk, h1, h2]
 sound := fun k hk h1 => by
  unfold ini at h1
  simp only [Bool.and_eq_true, decide_eq_true_eq] at h1
  exact Cheap.track_end h1.2.1 h1.2.2
theorem gi_put {n : Nat} {nx : Nat → Nat → Option Nat} {top : Nat → Int} {T : Nat → Bool} {h : Nat → P} {ps : P} {gd : Nat → Bool} {a b d : Nat} (hI : GI n nx top T h ps gd) (hG : Graph n nx top) (ha : a < n) (hd : d < 4) (hn : nx a d = some b) (hb : gd b = true) (he : h b = edge top (h a) b) : GI n nx top T h ps (put gd a true) where
 init := fun k hk h1 h2 => by
  by_cases e : k = a
  ·subst e; exact put_self _ _ _
  ·rw [put_ne e]; exact hI.init k hk h1 h2
 sound := fun k hk h1 => by
  by_cases e : k = a
  ·subst e
   exact Cheap.track_more hd hn (hI.sound b (hG.lt k d b ha hd hn) hb) he
  ·rw [put_ne e] at h1; exact hI.sound k hk h1
def resS (l : List SN) (ok : Bool) (x y : Int) : ByteArray × Int × Bool := if ok = true then cheap (nxS l) (topS l) (TS l x y) else (⟨#[]⟩, 0, false)
theorem dij_ref {n : Nat} {nx : Nat → Nat → Option Nat} {top : Nat → Int} {T : Nat → Bool} {h : Nat → P} {dn : Nat → Bool} (hG : Graph n nx top) (hD : Dij n nx top h dn) (hE : ∀ k, k < n → 0 ≤ (h k).1 → dn k = true) (hr : ∀ k, k < n → ∃ p, Price.Path nx top 0 k p) {b : Nat} (hb : b < n) (ht : T b = true) (hm : ∀ k, k < n → T k = true → Price.le (h b) (h k)) : Ref n nx top T h (h b) := by
 have h0 : ∀ k, k < n → 0 ≤ (h k).1 := fun k hk => by
  obtain ⟨p, hp⟩ := hr k hk
  exact (Price.dij_end hG hD hE hp).1
 refine ⟨fun k hk => hD.way k hk (h0 k hk), fun k hk q hq => (Price.dij_end hG hD hE hq).2, fun k hk => ?_, ⟨b, hb, ht, rfl⟩, hm⟩
 have h1 := h0 k hk
 have h2 := hD.num k hk h1
 have h3 := hG.small
 omega
theorem dij_zero {n : Nat} {nx : Nat → Nat → Option Nat} {top : Nat → Int} {h : Nat → P} {dn : Nat → Bool} (hG : Graph n nx top) (hD : Dij n nx top h dn) : h 0 = (0, 0) := by
 obtain ⟨h1, h2⟩ := hD.root
 have h3 := hD.num 0 hG.pos h1
 unfold Price.le at h2
 simp only at h2
 apply Prod.ext
 ·show (h 0).1 = 0
  omega
 ·show (h 0).2 = 0
  omega
set_option maxHeartbeats 8000000 in
set_option maxRecDepth 100000 in
theorem cheap_walk (k : Nat) (s : ByteArray) (a0 a1 a2 a3 a4 a5 a6 a7 x y : Int) (l : List SN) (ok : Bool) (w : World) (hc : QBw.spec_wyCell.f k s a0 a1 a2 a3 a4 a5 a6 a7 x y = some (l, ok)) (hok : ok = true → rOk l = true) :
  Calls Tryd.prog 5 #[.string s, .agg #[.int .i64 a0, .int .i64 a1, .int .i64 a2, .int .i64 a3, .int .i64 a4, .int .i64 a5, .int .i64 a6, .int .i64 a7], .int .i64 x, .int .i64 y] w fun e w' =>
   e = .returned (.tuple #[.string (resS l ok x y).1, .int .i64 (resS l ok x y).2.1, .bool (resS l ok x y).2.2]) ∧ Below w.heap.size w w' := by
 have HC := hid (fun W => QBw.spec_wyCell.calls k s a0 a1 a2 a3 a4 a5 a6 a7 x y l ok W hc)
 obtain ⟨res, hres⟩ : ∃ res, res = resS l ok x y := ⟨_, rfl⟩
 rw [← hres]
 unfold resS at hres
 clear hc
 cases ok with
 | false =>
  have hfin : Ending.returned (.tuple #[.string ⟨#[]⟩, .int .i64 0, .bool false]) = Ending.returned (.tuple #[.string res.1, .int .i64 res.2.1, .bool res.2.2]) := by
   rw [hres, if_neg (by decide)]
  clear hok hres
  go_enter Tryd.func5, Tryd.ntmps5
  go_wp2_with fail
  refine (HC.out _).mono ?_
  rintro e' w1 ⟨v0, rfl, hr, hb⟩
  have HB := hid (below_then ((Below.refl _ w).alloc (Nat.le_refl _) (.cells #[.int .i64 a0, .int .i64 a1, .int .i64 a2, .int .i64 a3, .int .i64 a4, .int .i64 a5, .int .i64 a6, .int .i64 a7] 30)) (by simp) hb)
  clear hr hb HC
  go_wp2_with fail
  go_ret3
  exact ⟨hfin, HB.out⟩
 | true =>
  have hro := hok rfl
  have hgo : gOk l = true := by unfold rOk at hro; rw [Bool.and_eq_true] at hro; exact hro.1
  have HG := hid (graph_of hgo)
  have HRE := hid (reach_of hro)
  rw [if_pos rfl] at hres
  obtain ⟨T, hT⟩ : ∃ T, T = TS l x y := ⟨_, rfl⟩
  have HTL := hid (show ∀ k, T k = true → k < l.length from fun k hk => TS_lt (x := x) (y := y) (by rw [← hT]; exact hk))
  have HTV := hid (show ∀ (k : Nat) (z : SN), l[k]? = some z → T k = (decide (z.f0.f0 = x) && decide (z.f0.f1 = y)) from fun k z hz => by rw [hT]; unfold TS; rw [hz])
  rw [← hT] at hres
  have HRES := hid hres
  obtain ⟨n, hn⟩ : ∃ n, n = l.length := ⟨_, rfl⟩
  have HN := hid hn
  have HN9 := hid (show n ≤ 900 by rw [hn]; exact HG.out.small)
  clear hok hro hgo hres hT
  go_enter Tryd.func5, Tryd.ntmps5
  go_wp2_with fail
  refine (HC.out _).mono ?_
  rintro e' w1 ⟨va, rfl, hr, hb⟩
  have HB1 := hid (below_then ((Below.refl _ w).alloc (Nat.le_refl _) (.cells #[.int .i64 a0, .int .i64 a1, .int .i64 a2, .int .i64 a3, .int .i64 a4, .int .i64 a5, .int .i64 a6, .int .i64 a7] 30)) (by simp) hb)
  obtain ⟨bA, cA, hv, _, _⟩ := R_form hr HG.out.pos
  subst hv
  have HCA := hid (Kd.R_reads' hr).2.2
  have HW := hid (costs_walk (some ⟨bA, 0, none⟩) cA l w1 (Kd.R_reads' hr).2.2 (Kd.R_reads' hr).2.1 HG.out)
  rw [← hn]
  rw [← hn] at HW HG HRE HTL
  clear hr hb HC hn
  go_wp2_with fail
  refine HW.out.mono ?_
  rintro e' w6 ⟨v13, v14, h, dn, rfl, hD, hE, hr13, hr14, hb⟩
  obtain ⟨b13, c13, hv13, _, _⟩ := R_form hr13 (by rw [row_len]; exact HG.out.pos)
  obtain ⟨b14, c14, hv14, _, _⟩ := R_form hr14 (by rw [row_len]; exact HG.out.pos)
  rw [row_len] at hv13 hv14
  subst hv13 hv14
  have HR13 := hid (show RI w1 w6 b13 n c13 (fun k => (h k).1) from hr13)
  have HR14 := hid (show RI w1 w6 b14 n c14 (fun k => (h k).2) from hr14)
  have HDE := hid (And.intro hD hE)
  have HZ0 := hid (dij_zero HG.out hD)
  have HB0 := hid (below_then HB1.out HB1.out.size hb)
  have HA := hid (Kd.C_below HCA.out hb)
  clear hr13 hr14 hD hE hb HW HB1 HCA
  go_wp2_with fail
  go_loopw [15, 48] (fun v15 v48 wr => ∃ (q : Nat) (o : Option Nat), v15 = .int .i64 (atI o) ∧ v48 = .int .i64 (q : Int) ∧ q ≤ n ∧ BestT h T q o ∧ Below w6.heap.size w6 wr) (fun _ v48 _ => n - (intOf v48).toNat)
  case atStart => exact ⟨0, none, rfl, rfl, Nat.zero_le _, (fun j hj => absurd hj (Nat.not_lt_zero _)), Below.refl _ _⟩
  case round =>
   obtain ⟨q, o, rfl, rfl, hq, hBe, hB⟩ := hrel
   have HB := hid hB
   have HBE := hid hBe
   clear hBe hB
   by_cases hlt : q < n
   ·as_aux_lemma =>
     have HLT := hid hlt
     obtain ⟨z, hz⟩ : ∃ z, l[q]? = some z := ⟨_, List.getElem?_eq_getElem (by rw [← HN.out]; exact hlt)⟩
     have HTQ := hid (HTV.out q z hz)
     obtain ⟨m0_, m1_, m2_, m3_, m4_, m5_, m6_, m7_, m8_, m9_, m10_, m11_, m12_, m13_, m14_, m15_⟩ := nd_row (Kd.C_below HA.out HB.out) q z hz
     have hq0 : (0 : Int) ≤ (q : Int) := by omega
     have hq1 : (q : Int) < (n : Int) := by omega
     clear hz hlt
     go_upto_region 9 with fail
     clear m0_ m1_ m2_ m3_ m4_ m5_ m6_ m7_ m8_ m9_ m10_ m11_ m12_ m13_ m14_ m15_
     have n_HB := hid (below_alloc HB.out (.cells #[.int .i64 z.f0.f0, .int .i64 z.f0.f1, .int .i64 z.f0.f2.f0, .int .i64 z.f0.f2.f1, .int .i64 z.f0.f2.f2, .int .i64 z.f0.f2.f3, .int .i64 z.f0.f2.f4, .int .i64 z.f0.f2.f5, .int .i64 z.f1, .int .i64 z.f2, .int .i64 z.f3, .int .i64 z.f4, .int .i64 z.f5.f0, .int .i64 z.f5.f1, .int .i64 z.f5.f2, .int .i64 z.f5.f3] 44))
     have n_B0 := hid (blk_new wr (.cells #[.int .i64 z.f0.f0, .int .i64 z.f0.f1, .int .i64 z.f0.f2.f0, .int .i64 z.f0.f2.f1, .int .i64 z.f0.f2.f2, .int .i64 z.f0.f2.f3, .int .i64 z.f0.f2.f4, .int .i64 z.f0.f2.f5, .int .i64 z.f1, .int .i64 z.f2, .int .i64 z.f3, .int .i64 z.f4, .int .i64 z.f5.f0, .int .i64 z.f5.f1, .int .i64 z.f5.f2, .int .i64 z.f5.f3] 44))
     clear HB
     have HB := n_HB
     have B0 := n_B0
     clear n_HB n_B0
     obtain ⟨gz_, hgz⟩ : ∃ gz_, gz_ = wr.heap.size := ⟨_, rfl⟩
     rw [← hgz] at B0 ⊢
     clear hgz
     generalize World.alloc _ _ = w8 at HB B0 ⊢
     have x0_ : w8.cell? ⟨gz_, 0, none⟩ = some (.int .i64 z.f0.f0) := blk_cell B0.out 0
     have x1_ : w8.cell? ⟨gz_, 1, none⟩ = some (.int .i64 z.f0.f1) := blk_cell B0.out 1
     obtain ⟨⟨cq, rq⟩, hcq⟩ : ∃ p, p = h q := ⟨_, rfl⟩
     obtain ⟨c4_, _⟩ := sc_cell (Kd.R_below HR13.out HB.out) q _ (row_at (fun j => (h j).1) HLT.out)
     obtain ⟨r5_, _⟩ := sc_cell (Kd.R_below HR14.out HB.out) q _ (row_at (fun j => (h j).2) HLT.out)
     simp only [← hcq] at c4_ r5_
     have HCQ := hid hcq
     have hk9 : n ≤ 900 := HN9.out
     clear hcq
     by_cases hx : z.f0.f0 = x
     ·have d1_ : decide (z.f0.f0 = x) = true := decide_eq_true hx
      have bd1_ : ((z.f0.f0) == (x)) = true := by simpa using hx
      by_cases hy : z.f0.f1 = y
      ·have d2_ : decide (z.f0.f1 = y) = true := decide_eq_true hy
       have bd2_ : ((z.f0.f1) == (y)) = true := by simpa using hy
       have HT := hid (show T q = true by rw [HTQ.out, d1_, d2_]; rfl)
       clear hx hy
       cases o with
       | none =>
        have ha0 : atI none = -1 := rfl
        rw [ha0]
        clear ha0
        go_wp2_with fail
        go_quiet (fail)
        go_wp2_with fail
        go_roundw
        case rel => exact ⟨q + 1, some q, rfl, by go_num, HLT.out, bt_first HBE.out HT.out, pw_below_drewN HB.out _⟩
        case measure =>
         have := HLT.out
         simp [intOf]
         omega
       | some a_ =>
        obtain ⟨p, hp⟩ : ∃ p, p = a_ := ⟨_, rfl⟩
        subst hp
        have ha0 : atI (some p) = (p : Int) := rfl
        rw [ha0]
        clear ha0
        have hpk : p < n := by have := HBE.out.1; have := HLT.out; omega
        have hp0 : (0 : Int) ≤ (p : Int) := by omega
        have hp1 : (p : Int) < (n : Int) := by omega
        have hpn : decide ((p : Int) < 0) = false := decide_eq_false (by omega)
        obtain ⟨⟨cp, rp⟩, hcp⟩ : ∃ x, x = h p := ⟨_, rfl⟩
        obtain ⟨c6_, _⟩ := sc_cell (Kd.R_below HR13.out HB.out) p _ (row_at (fun j => (h j).1) hpk)
        obtain ⟨r6_, _⟩ := sc_cell (Kd.R_below HR14.out HB.out) p _ (row_at (fun j => (h j).2) hpk)
        simp only [← hcp] at c6_ r6_
        have HLTI := hid (show Price.lt (h q) (h p) ↔ cq < cp ∨ (cq = cp ∧ rq < rp) by rw [← HCQ.out, ← hcp]; exact Iff.rfl)
        clear hcp
        by_cases h1 : cq < cp
        ·have e1_ : decide (cq < cp) = true := decide_eq_true h1
         have HL := hid (HLTI.out.2 (.inl h1))
         go_wp2_with fail
         go_quiet (fail)
         go_wp2_with fail
         go_roundw
         case rel => exact ⟨q + 1, some q, rfl, by go_num, HLT.out, bt_less HBE.out HT.out HL.out, pw_below_drewN HB.out _⟩
         case measure =>
          have := HLT.out
          simp [intOf]
          omega
        ·have e1_ : decide (cq < cp) = false := decide_eq_false h1
         by_cases h2 : cq = cp
         ·subst h2
          have e2_ : decide (cq = cq) = true := decide_eq_true rfl
          by_cases h3 : rq < rp
          ·have e3_ : decide (rq < rp) = true := decide_eq_true h3
           have HL := hid (HLTI.out.2 (.inr ⟨rfl, h3⟩))
           go_wp2_with fail
           go_quiet (fail)
           go_wp2_with fail
           go_roundw
           case rel => exact ⟨q + 1, some q, rfl, by go_num, HLT.out, bt_less HBE.out HT.out HL.out, pw_below_drewN HB.out _⟩
           case measure =>
            have := HLT.out
            simp [intOf]
            omega
          ·have e3_ : decide (rq < rp) = false := decide_eq_false h3
           have HL := hid (show ¬ Price.lt (h q) (h p) from fun h_ => by rcases HLTI.out.1 h_ with h_ | h_ <;> omega)
           go_wp2_with fail
           go_quiet (fail)
           go_wp2_with fail
           go_roundw
           case rel => exact ⟨q + 1, some p, rfl, by go_num, HLT.out, bt_keep HBE.out HL.out, pw_below_drewN HB.out _⟩
           case measure =>
            have := HLT.out
            simp [intOf]
            omega
         ·have e2_ : decide (cq = cp) = false := decide_eq_false h2
          have be2_ : ((cq) == (cp)) = false := by simpa using h2
          have HL := hid (show ¬ Price.lt (h q) (h p) from fun h_ => by rcases HLTI.out.1 h_ with h_ | h_ <;> omega)
          go_wp2_with fail
          go_quiet (fail)
          go_wp2_with fail
          go_roundw
          case rel => exact ⟨q + 1, some p, rfl, by go_num, HLT.out, bt_keep HBE.out HL.out, pw_below_drewN HB.out _⟩
          case measure =>
           have := HLT.out
           simp [intOf]
           omega
      ·have d2_ : decide (z.f0.f1 = y) = false := decide_eq_false hy
       have bd2_ : ((z.f0.f1) == (y)) = false := by simpa using hy
       have HT := hid (show T q = false by rw [HTQ.out, d1_, d2_]; rfl)
       clear hx hy
       go_wp2_with fail
       go_quiet (fail)
       go_wp2_with fail
       go_roundw
       case rel => exact ⟨q + 1, o, rfl, by go_num, HLT.out, bt_skip HBE.out HT.out, pw_below_drewN HB.out _⟩
       case measure =>
        have := HLT.out
        simp [intOf]
        omega
     ·have d1_ : decide (z.f0.f0 = x) = false := decide_eq_false hx
      have bd1_ : ((z.f0.f0) == (x)) = false := by simpa using hx
      have HT := hid (show T q = false by rw [HTQ.out, d1_, Bool.false_and])
      clear hx
      go_wp2_with fail
      go_quiet (fail)
      go_wp2_with fail
      go_roundw
      case rel => exact ⟨q + 1, o, rfl, by go_num, HLT.out, bt_skip HBE.out HT.out, pw_below_drewN HB.out _⟩
      case measure =>
       have := HLT.out
       simp [intOf]
       omega
   ·obtain rfl : q = n := by omega
    have hge : ¬ ((q : Int) < (q : Int)) := by omega
    clear hlt hq
    cases o with
    | none =>
     have hfin : Ending.returned (.tuple #[.string ⟨#[]⟩, .int .i64 0, .bool false]) = Ending.returned (.tuple #[.string res.1, .int .i64 res.2.1, .bool res.2.2]) := by
      rw [HRES.out]
      unfold cheap
      rw [Cheap.leastT_none fun k q_ hk _ => by have := HBE.out k (HTL.out k hk); rw [hk] at this; cases this]
     have ha0 : atI none = -1 := rfl
     rw [ha0]
     clear ha0
     go_wp2_with fail
     go_ret3
     exact ⟨hfin, below_then HB0.out HB0.out.size HB.out⟩
    | some a_ =>
     obtain ⟨p, hp⟩ : ∃ p, p = a_ := ⟨_, rfl⟩
     subst hp
     have ha0 : atI (some p) = (p : Int) := rfl
     rw [ha0]
     clear ha0
     have hpk := HBE.out.1
     have HREF := hid (dij_ref HG.out HDE.out.1 HDE.out.2 HRE.out hpk HBE.out.2.1 HBE.out.2.2)
     have HTP := hid HBE.out.2.1
     have HLE := hid (show leastT (nxS l) (topS l) T 0 = some (h p) by
      rw [Cheap.track_least HG.out HREF.out HG.out.pos ⟨p, h p, HTP.out, HREF.out.way p hpk, by rw [HZ0.out]; unfold Price.add; simp⟩, HZ0.out]
      unfold Cheap.sub
      simp)
     have hp0 : (0 : Int) ≤ (p : Int) := by omega
     have hp1 : (p : Int) < (q : Int) := by omega
     have hpn : decide ((p : Int) < 0) = false := decide_eq_false (by omega)
     obtain ⟨⟨c, r⟩, hcp⟩ : ∃ x, x = h p := ⟨_, rfl⟩
     obtain ⟨c6_, _⟩ := sc_cell (Kd.R_below HR13.out HB.out) p _ (row_at (fun j => (h j).1) hpk)
     obtain ⟨r6_, _⟩ := sc_cell (Kd.R_below HR14.out HB.out) p _ (row_at (fun j => (h j).2) hpk)
     simp only [← hcp] at c6_ r6_
     rw [← hcp] at HREF HLE
     have HSM := hid (show 0 ≤ r ∧ r ≤ 900 by have h_ := HREF.out.small p hpk; rw [← hcp] at h_; exact ⟨h_.2.2.1, h_.2.2.2⟩)
     have HPS := hid hcp.symm
     clear hcp hpk HBE
     by_cases h60 : r > 60
     ·have hrd : decide (r > 60) = true := decide_eq_true h60
      have hfin : Ending.returned (.tuple #[.string ⟨#[]⟩, .int .i64 0, .bool false]) = Ending.returned (.tuple #[.string res.1, .int .i64 res.2.1, .bool res.2.2]) := by
       rw [HRES.out]
       unfold cheap
       rw [HLE.out]
       simp only
       rw [if_pos h60]
      clear h60
      go_wp2_with fail
      go_ret3
      exact ⟨hfin, below_then HB0.out HB0.out.size HB.out⟩
     ·have hrd : decide (r > 60) = false := decide_eq_false h60
      have HFIN := hid (show res = (wayT (nxS l) (topS l) T r.toNat 0 c, c, true) by
       rw [HRES.out]
       unfold cheap
       rw [HLE.out]
       simp only
       rw [if_neg h60])
      clear h60 HRES HLE
      go_wp2_with fail
      go_quiet (fail)
      have n_HB := hid (pw_below_drewN HB.out nq)
      clear HB c6_ r6_ hp0 hp1 hpn hrd
      have HB := n_HB
      clear n_HB
      generalize World.drewN _ _ = w14 at HB ⊢
      go_wp2_with (first | ((with_reducible refine gate_dst (N := 123) rfl ?_); refine Kd.R_make Kd.bool (w0 := w6) w6.heap.size 4 rfl (N := 123) rfl 45 (.tmp 122) (.tmp 122) rfl (q : Int) rfl rfl Tryd.underlying45 (.bool false) 1 infoBl rfl (by decide) (by decide) false (ok := fun _ => True) (okp := fun _ => True) rfl (fun _ _ => trivial) trivial (by omega) (by have h_ := HN9.out; omega) HB.out HB.out.size ?_; intro v20 w15 ho hb hg hat; rw [Int.toNat_natCast] at ho; have R20 := hid ho; clear HB; have HB := hid hb; clear ho hb hg hat))
      obtain ⟨b20, c20, hv20, hb20, _⟩ := R_form R20.out (by rw [List.length_replicate]; exact HG.out.pos)
      rw [List.length_replicate] at hv20
      have HB20 := hid hb20
      have RG := hid (show RB w6 w15 b20 q c20 (ini h T (c, r) 0) from by
       have h_ := R20.out
       rw [row_rep, hv20] at h_
       unfold RB
       rw [row_congr (h := fun _ => false) (fun j _ => by unfold ini; simp)]
       exact h_)
      subst hv20
      clear R20 hb20 hge
      go_loopw [126] (fun v126 wr => ∃ a : Nat, v126 = .int .i64 (a : Int) ∧ a ≤ q ∧ RB w6 wr b20 q c20 (ini h T (c, r) a) ∧ Below w6.heap.size w6 wr) (fun v126 _ => q - (intOf v126).toNat)
      case atStart => exact ⟨0, rfl, Nat.zero_le _, RG.out, HB.out⟩
      case round =>
       clear RG HB
       obtain ⟨a, rfl, ha, hR, hB⟩ := hrel
       have HB := hid hB
       have RG := hid hR
       clear hR hB
       by_cases hlt : a < q
       ·as_aux_lemma =>
         have HLT := hid hlt
         obtain ⟨z, hz⟩ : ∃ z, l[a]? = some z := ⟨_, List.getElem?_eq_getElem (by rw [← HN.out]; exact hlt)⟩
         have HTQ := hid (HTV.out a z hz)
         obtain ⟨m0_, m1_, m2_, m3_, m4_, m5_, m6_, m7_, m8_, m9_, m10_, m11_, m12_, m13_, m14_, m15_⟩ := nd_row (Kd.C_below HA.out HB.out) a z hz
         have ha0 : (0 : Int) ≤ (a : Int) := by omega
         have ha1 : (a : Int) < (q : Int) := by omega
         clear hz hlt
         go_upto_region 19 with fail
         clear m0_ m1_ m2_ m3_ m4_ m5_ m6_ m7_ m8_ m9_ m10_ m11_ m12_ m13_ m14_ m15_
         have n_HB := hid (below_alloc HB.out (.cells #[.int .i64 z.f0.f0, .int .i64 z.f0.f1, .int .i64 z.f0.f2.f0, .int .i64 z.f0.f2.f1, .int .i64 z.f0.f2.f2, .int .i64 z.f0.f2.f3, .int .i64 z.f0.f2.f4, .int .i64 z.f0.f2.f5, .int .i64 z.f1, .int .i64 z.f2, .int .i64 z.f3, .int .i64 z.f4, .int .i64 z.f5.f0, .int .i64 z.f5.f1, .int .i64 z.f5.f2, .int .i64 z.f5.f3] 44))
         have n_B0 := hid (blk_new wr (.cells #[.int .i64 z.f0.f0, .int .i64 z.f0.f1, .int .i64 z.f0.f2.f0, .int .i64 z.f0.f2.f1, .int .i64 z.f0.f2.f2, .int .i64 z.f0.f2.f3, .int .i64 z.f0.f2.f4, .int .i64 z.f0.f2.f5, .int .i64 z.f1, .int .i64 z.f2, .int .i64 z.f3, .int .i64 z.f4, .int .i64 z.f5.f0, .int .i64 z.f5.f1, .int .i64 z.f5.f2, .int .i64 z.f5.f3] 44))
         have n_RG := hid (Kd.R_alloc RG.out (.cells #[.int .i64 z.f0.f0, .int .i64 z.f0.f1, .int .i64 z.f0.f2.f0, .int .i64 z.f0.f2.f1, .int .i64 z.f0.f2.f2, .int .i64 z.f0.f2.f3, .int .i64 z.f0.f2.f4, .int .i64 z.f0.f2.f5, .int .i64 z.f1, .int .i64 z.f2, .int .i64 z.f3, .int .i64 z.f4, .int .i64 z.f5.f0, .int .i64 z.f5.f1, .int .i64 z.f5.f2, .int .i64 z.f5.f3] 44))
         clear HB RG
         have HB := n_HB
         have B0 := n_B0
         have RG := n_RG
         clear n_HB n_B0 n_RG
         obtain ⟨gz_, hgz⟩ : ∃ gz_, gz_ = wr.heap.size := ⟨_, rfl⟩
         rw [← hgz] at B0 ⊢
         clear hgz
         generalize World.alloc _ _ = w8 at HB B0 RG ⊢
         have x0_ : w8.cell? ⟨gz_, 0, none⟩ = some (.int .i64 z.f0.f0) := blk_cell B0.out 0
         have x1_ : w8.cell? ⟨gz_, 1, none⟩ = some (.int .i64 z.f0.f1) := blk_cell B0.out 1
         obtain ⟨⟨cq, rq⟩, hcq⟩ : ∃ p, p = h a := ⟨_, rfl⟩
         obtain ⟨c4_, _⟩ := sc_cell (Kd.R_below HR13.out HB.out) a _ (row_at (fun j => (h j).1) HLT.out)
         obtain ⟨r5_, _⟩ := sc_cell (Kd.R_below HR14.out HB.out) a _ (row_at (fun j => (h j).2) HLT.out)
         simp only [← hcq] at c4_ r5_
         obtain ⟨p1_, p2_⟩ := sc_cell RG.out a _ (row_at (ini h T (c, r) a) HLT.out)
         have HCQ := hid hcq
         have HPUT := hid (show ∀ v_, v_ = (T a && decide (h a = (c, r))) → RB w6 (w8.setCell ⟨b20, a, none⟩ (.bool v_)) b20 q c20 (ini h T (c, r) (a + 1)) ∧ Below w6.heap.size w6 (w8.setCell ⟨b20, a, none⟩ (.bool v_)) from fun v_ hv_ => by
          have h_ := (rb_put RG.out a v_).1
          rw [ini_put hv_] at h_
          exact ⟨h_, below_set HB.out HB20.out⟩)
         have hk9 : q ≤ 900 := HN9.out
         clear hcq
         by_cases hx : z.f0.f0 = x
         ·have d1_ : decide (z.f0.f0 = x) = true := decide_eq_true hx
          have bd1_ : ((z.f0.f0) == (x)) = true := by simpa using hx
          by_cases hy : z.f0.f1 = y
          ·have d2_ : decide (z.f0.f1 = y) = true := decide_eq_true hy
           have bd2_ : ((z.f0.f1) == (y)) = true := by simpa using hy
           have HT := hid (show T a = true by rw [HTQ.out, d1_, d2_]; rfl)
           by_cases hc : cq = c
           ·have d3_ : decide (cq = c) = true := decide_eq_true hc
            have bd3_ : ((cq) == (c)) = true := by simpa using hc
            by_cases hr : rq = r
            ·have d4_ : decide (rq = r) = true := decide_eq_true hr
             have bd4_ : ((rq) == (r)) = true := by simpa using hr
             have HV := hid (HPUT.out true (by rw [HT.out, ← HCQ.out, hc, hr]; simp))
             clear hx hy hc hr
             go_wp2_with fail
             clear HPUT
             generalize World.setCell _ _ _ = w19 at HV ⊢
             go_roundw
             case rel => exact ⟨a + 1, by go_num, HLT.out, HV.out.1, HV.out.2⟩
             case measure =>
              have := HLT.out
              simp [intOf]
              omega
            ·have d4_ : decide (rq = r) = false := decide_eq_false hr
             have bd4_ : ((rq) == (r)) = false := by simpa using hr
             have HV := hid (HPUT.out false (by rw [← HCQ.out]; simp [hr]))
             clear hx hy hc hr
             go_wp2_with fail
             clear HPUT
             generalize World.setCell _ _ _ = w19 at HV ⊢
             go_roundw
             case rel => exact ⟨a + 1, by go_num, HLT.out, HV.out.1, HV.out.2⟩
             case measure =>
              have := HLT.out
              simp [intOf]
              omega
           ·have d3_ : decide (cq = c) = false := decide_eq_false hc
            have bd3_ : ((cq) == (c)) = false := by simpa using hc
            have HV := hid (HPUT.out false (by rw [← HCQ.out]; simp [hc]))
            clear hx hy hc
            go_wp2_with fail
            clear HPUT
            generalize World.setCell _ _ _ = w19 at HV ⊢
            go_roundw
            case rel => exact ⟨a + 1, by go_num, HLT.out, HV.out.1, HV.out.2⟩
            case measure =>
             have := HLT.out
             simp [intOf]
             omega
          ·have d2_ : decide (z.f0.f1 = y) = false := decide_eq_false hy
           have bd2_ : ((z.f0.f1) == (y)) = false := by simpa using hy
           have HV := hid (HPUT.out false (by rw [HTQ.out, d1_, d2_]; rfl))
           clear hx hy
           go_wp2_with fail
           clear HPUT
           generalize World.setCell _ _ _ = w19 at HV ⊢
           go_roundw
           case rel => exact ⟨a + 1, by go_num, HLT.out, HV.out.1, HV.out.2⟩
           case measure =>
            have := HLT.out
            simp [intOf]
            omega
         ·have d1_ : decide (z.f0.f0 = x) = false := decide_eq_false hx
          have bd1_ : ((z.f0.f0) == (x)) = false := by simpa using hx
          have HV := hid (HPUT.out false (by rw [HTQ.out, d1_]; rfl))
          clear hx
          go_wp2_with fail
          clear HPUT
          generalize World.setCell _ _ _ = w19 at HV ⊢
          go_roundw
          case rel => exact ⟨a + 1, by go_num, HLT.out, HV.out.1, HV.out.2⟩
          case measure =>
           have := HLT.out
           simp [intOf]
           omega
       ·obtain rfl : a = q := by omega
        have hge : ¬ ((a : Int) < (a : Int)) := by omega
        clear hlt ha
        obtain ⟨gs, hgs⟩ : ∃ gs, gs = ini h T (c, r) a := ⟨_, rfl⟩
        have HI0 := hid (show GI a (nxS l) (topS l) T h (c, r) gs by rw [hgs]; exact gi_start)
        rw [← hgs] at RG
        clear hgs
        go_wp2_with fail
        clear hge
        go_loopg [23] (left gs a + 1) (fun gk v23 wr => ∃ (gd : Nat → Bool) (more : Bool), v23 = .bool more ∧ gk = (if more = true then left gd a + 1 else 0) ∧ GI a (nxS l) (topS l) T h (c, r) gd ∧ (more = false → ∀ k, k < a → ∀ d, d < 4 → Sh (nxS l) (topS l) h gd k d) ∧ RB w6 wr b20 a c20 gd ∧ Below w6.heap.size w6 wr)
        case atStart => exact ⟨gs, true, rfl, rfl, HI0.out, (fun h_ => by cases h_), RG.out, HB.out⟩
        case round =>
         clear RG HB HI0
         obtain ⟨gd, more, rfl, hgk, hI, hS, hR, hB⟩ := hrel
         have HB := hid hB
         have RG := hid hR
         have HI := hid hI
         have HS := hid hS
         have HGK := hid hgk
         clear hB hR hI hS hgk
         cases more with
         | true =>
          clear HS
          go_wp2_with fail
          go_loopw [23, 166] (fun v23 v166 wi => ∃ (m : Nat) (g2 : Nat → Bool) (c2 : Bool), v23 = .bool c2 ∧ v166 = .int .i64 (m : Int) ∧ m ≤ a ∧ GI a (nxS l) (topS l) T h (c, r) g2 ∧ (c2 = false → g2 = gd ∧ ∀ k, k < m → ∀ d, d < 4 → Sh (nxS l) (topS l) h g2 k d) ∧ (c2 = true → left g2 a < left gd a) ∧ RB w6 wi b20 a c20 g2 ∧ Below w6.heap.size w6 wi) (fun _ v166 _ => a - (intOf v166).toNat)
          case atStart => exact ⟨0, gd, false, rfl, rfl, Nat.zero_le _, HI.out, (fun _ => ⟨rfl, fun k hk => absurd hk (Nat.not_lt_zero _)⟩), (fun h_ => by cases h_), RG.out, HB.out⟩
          case round =>
           clear RG HB HI
           obtain ⟨m, g2, c2, rfl, rfl, hm, hI, hS, hL, hR, hB⟩ := hrel
           have HB := hid hB
           have RG := hid hR
           have HI := hid hI
           have HS := hid (And.intro hS hL)
           clear hB hR hI hS hL
           by_cases hlt : m < a
           ·have HM := hid hlt
            obtain ⟨z, hz⟩ : ∃ z, l[m]? = some z := ⟨_, List.getElem?_eq_getElem (by rw [← HN.out]; exact hlt)⟩
            have HZ := hid hz
            obtain ⟨_, _, _, _, _, _, _, _, _, _, _, _, m12_, m13_, m14_, m15_⟩ := nd_row (Kd.C_below HA.out HB.out) m z hz
            have hm0 : (0 : Int) ≤ (m : Int) := by omega
            have hm1 : (m : Int) < (a : Int) := by omega
            clear hz hlt
            go_wp2_with fail
            clear m12_ m13_ m14_ m15_
            go_loopw [23, 174] (fun v23 v174 wi => ∃ (i : Nat) (g3 : Nat → Bool) (c3 : Bool), v23 = .bool c3 ∧ v174 = .int .i64 (i : Int) ∧ i ≤ 4 ∧ GI a (nxS l) (topS l) T h (c, r) g3 ∧ (c3 = false → g3 = gd ∧ (∀ k, k < m → ∀ d, d < 4 → Sh (nxS l) (topS l) h g3 k d) ∧ ∀ d, d < i → Sh (nxS l) (topS l) h g3 m d) ∧ (c3 = true → left g3 a < left gd a) ∧ RB w6 wi b20 a c20 g3 ∧ Below w6.heap.size w6 wi) (fun _ v174 _ => 4 - (intOf v174).toNat)
            case atStart => exact ⟨0, g2, c2, rfl, rfl, by omega, HI.out, (fun h_ => ⟨(HS.out.1 h_).1, (HS.out.1 h_).2, fun d hd => absurd hd (Nat.not_lt_zero _)⟩), HS.out.2, RG.out, HB.out⟩
            case round =>
             clear RG HB HI HS
             obtain ⟨i, g3, c3, rfl, rfl, hi, hI, hS, hL, hR, hB⟩ := hrel
             have HB := hid hB
             have RG := hid hR
             have HI := hid hI
             have HS := hid (And.intro hS hL)
             clear hB hR hI hS hL
             by_cases hi4 : i < 4
             ·as_aux_lemma =>
               have HI4 := hid hi4
               have hi1 : (i : Int) < 4 := by omega
               have hix_ := index_next z i hi4
               obtain ⟨d7_, f7_⟩ := sc_cell RG.out m _ (row_at g3 HM.out)
               obtain ⟨dm, hdm⟩ : ∃ dm, dm = g3 m := ⟨_, rfl⟩
               rw [← hdm] at d7_
               have HDM := hid hdm
               clear hdm
               by_cases hneg : nxI z i < 0
               ·obtain ⟨v, hv⟩ : ∃ v, v = nxI z i := ⟨_, rfl⟩
                have HNX := hid (nxS_none HZ.out hneg)
                have HSH := hid (show Sh (nxS l) (topS l) h g3 m i from fun b hb => by rw [HNX.out] at hb; cases hb)
                rw [← hv] at hix_ hneg
                have e1_ : decide (0 ≤ v) = false := decide_eq_false (by omega)
                clear hi4 hv
                cases dm with
                | true =>
                 go_wp2_with fail
                 go_quiet (fail)
                 go_wp2_with fail
                 go_roundw
                 case rel => exact ⟨i + 1, g3, c3, rfl, by go_num, HI4.out, HI.out, (fun h_ => ⟨(HS.out.1 h_).1, (HS.out.1 h_).2.1, fun d hd => by
                  by_cases e : d = i
                  ·subst e; exact HSH.out
                  ·exact (HS.out.1 h_).2.2 d (by omega)⟩), HS.out.2, Kd.R_drewN RG.out _, pw_below_drewN HB.out _⟩
                 case measure =>
                  have := HI4.out
                  simp [intOf]
                  omega
                | false =>
                 go_wp2_with fail
                 go_quiet (fail)
                 go_wp2_with fail
                 go_roundw
                 case rel => exact ⟨i + 1, g3, c3, rfl, by go_num, HI4.out, HI.out, (fun h_ => ⟨(HS.out.1 h_).1, (HS.out.1 h_).2.1, fun d hd => by
                  by_cases e : d = i
                  ·subst e; exact HSH.out
                  ·exact (HS.out.1 h_).2.2 d (by omega)⟩), HS.out.2, Kd.R_drewN RG.out _, pw_below_drewN HB.out _⟩
                 case measure =>
                  have := HI4.out
                  simp [intOf]
                  omega
               ·obtain ⟨j, hj⟩ : ∃ j : Nat, nxI z i = (j : Int) := ⟨(nxI z i).toNat, by omega⟩
                have HNX := hid (nxS_some HZ.out hj)
                have hja := HG.out.lt m i j HM.out hi4 HNX.out
                have HJA := hid hja
                rw [hj] at hix_
                have hj0 : (0 : Int) ≤ (j : Int) := by omega
                have hj1 : (j : Int) < (a : Int) := by omega
                have e1_ : decide (0 ≤ (j : Int)) = true := decide_eq_true (by omega)
                obtain ⟨d8_, _⟩ := sc_cell RG.out j _ (row_at g3 hja)
                obtain ⟨dj, hdj⟩ : ∃ dj, dj = g3 j := ⟨_, rfl⟩
                rw [← hdj] at d8_
                have HDJ := hid hdj
                clear hneg hj hja hi4 hdj
                cases dm with
                | true =>
                 have HSH := hid (show Sh (nxS l) (topS l) h g3 m i from fun b hb _ _ => HDM.out.symm)
                 go_wp2_with fail
                 go_quiet (fail)
                 go_wp2_with fail
                 go_roundw
                 case rel => exact ⟨i + 1, g3, c3, rfl, by go_num, HI4.out, HI.out, (fun h_ => ⟨(HS.out.1 h_).1, (HS.out.1 h_).2.1, fun d hd => by
                  by_cases e : d = i
                  ·subst e; exact HSH.out
                  ·exact (HS.out.1 h_).2.2 d (by omega)⟩), HS.out.2, Kd.R_drewN RG.out _, pw_below_drewN HB.out _⟩
                 case measure =>
                  have := HI4.out
                  simp [intOf]
                  omega
                | false =>
                 cases dj with
                 | false =>
                  have HSH := hid (show Sh (nxS l) (topS l) h g3 m i from fun b hb h1_ _ => by rw [HNX.out] at hb; injection hb with hb; subst hb; rw [← HDJ.out] at h1_; cases h1_)
                  go_wp2_with fail
                  go_quiet (fail)
                  go_wp2_with fail
                  go_roundw
                  case rel => exact ⟨i + 1, g3, c3, rfl, by go_num, HI4.out, HI.out, (fun h_ => ⟨(HS.out.1 h_).1, (HS.out.1 h_).2.1, fun d hd => by
                   by_cases e : d = i
                   ·subst e; exact HSH.out
                   ·exact (HS.out.1 h_).2.2 d (by omega)⟩), HS.out.2, Kd.R_drewN RG.out _, pw_below_drewN HB.out _⟩
                  case measure =>
                   have := HI4.out
                   simp [intOf]
                   omega
                 | true =>
                  obtain ⟨⟨cm, rm⟩, hcm⟩ : ∃ x, x = h m := ⟨_, rfl⟩
                  obtain ⟨c6_, _⟩ := sc_cell (Kd.R_below HR13.out HB.out) m _ (row_at (fun j => (h j).1) HM.out)
                  obtain ⟨r6_, _⟩ := sc_cell (Kd.R_below HR14.out HB.out) m _ (row_at (fun j => (h j).2) HM.out)
                  simp only [← hcm] at c6_ r6_
                  obtain ⟨⟨cj, rj⟩, hcj⟩ : ∃ x, x = h j := ⟨_, rfl⟩
                  obtain ⟨c8_, _⟩ := sc_cell (Kd.R_below HR13.out HB.out) j _ (row_at (fun j => (h j).1) HJA.out)
                  obtain ⟨r8_, _⟩ := sc_cell (Kd.R_below HR14.out HB.out) j _ (row_at (fun j => (h j).2) HJA.out)
                  simp only [← hcj] at c8_ r8_
                  obtain ⟨y2, hy2⟩ : ∃ y2, l[j]? = some y2 := ⟨_, List.getElem?_eq_getElem (by rw [← HN.out]; exact HJA.out)⟩
                  obtain ⟨_, _, m2_, _, _, _, _, _, _, _, _, _, _, _, _, _⟩ := nd_row (Kd.C_below HA.out HB.out) j y2 hy2
                  obtain ⟨t, ht⟩ : ∃ t, t = y2.f0.f2.f0 := ⟨_, rfl⟩
                  rw [← ht] at m2_
                  have HT := hid (show topS l j = t by unfold topS; rw [hy2, ht])
                  have HCJ := hid hcj
                  have hb_ := HREF.out.small m HM.out
                  rw [← hcm] at hb_
                  have ht_ := HG.out.top j HJA.out
                  rw [HT.out] at ht_
                  simp only at hb_
                  have hw1_ : IntKind.i64.wrap (cm + t) = cm + t := IntWalk.i64_in _ (by omega)
                  have hw2_ : IntKind.i64.wrap (rm + 1) = rm + 1 := IntWalk.i64_in _ (by omega)
                  have HE := hid (show edge (topS l) (h m) j = (cm + t, rm + 1) by rw [← hcm, ← HT.out]; rfl)
                  clear hy2 ht hb_ ht_ hcm hcj
                  by_cases h1 : cj = cm + t
                  ·have e2_ : decide (cj = cm + t) = true := decide_eq_true h1
                   have be2_ : ((cj) == (cm + t)) = true := by simpa using h1
                   by_cases h2 : rj = rm + 1
                   ·have e3_ : decide (rj = rm + 1) = true := decide_eq_true h2
                    have be3_ : ((rj) == (rm + 1)) = true := by simpa using h2
                    have HED := hid (show h j = edge (topS l) (h m) j by rw [HE.out, ← HCJ.out, h1, h2])
                    have HI2 := hid (gi_put HI.out HG.out HM.out HI4.out HNX.out HDJ.out.symm HED.out)
                    have HLE := hid (Price.left_put (n := a) HM.out HDM.out.symm)
                    have n_RG := hid (rb_put RG.out m true).1
                    have HLT2 := hid (show left (put g3 m true) a < left gd a by
                     have h_ := HS.out
                     have h2_ := HLE.out
                     cases c3 with
                     | false => rw [(h_.1 rfl).1] at h2_ ⊢; omega
                     | true => have := h_.2 rfl; omega)
                    go_wp2_with fail
                    go_quiet (fail)
                    have n_HB := hid (pw_below_drewN HB.out nq)
                    have n_RG := hid (Kd.R_drewN RG.out nq)
                    clear HB RG d7_ f7_ d8_
                    have HB := n_HB
                    have RG := n_RG
                    clear n_HB n_RG
                    generalize World.drewN _ _ = w30 at HB RG ⊢
                    have n_RG := hid (rb_put RG.out m true).1
                    have n_HB := hid (show Below w6.heap.size w6 (w30.setCell ⟨b20, m, none⟩ (.bool true)) from below_set HB.out HB20.out)
                    obtain ⟨d7_, f7_⟩ := sc_cell RG.out m _ (row_at g3 HM.out)
                    go_wp2_with fail
                    clear RG HB d7_ f7_
                    generalize World.setCell _ _ _ = w31 at n_RG n_HB ⊢
                    go_roundw
                    case rel => exact ⟨i + 1, _, true, rfl, by go_num, HI4.out, HI2.out, (fun h_ => by cases h_), (fun _ => HLT2.out), n_RG.out, n_HB.out⟩
                    case measure =>
                     have := HI4.out
                     simp [intOf]
                     omega
                   ·have e3_ : decide (rj = rm + 1) = false := decide_eq_false h2
                    have be3_ : ((rj) == (rm + 1)) = false := by simpa using h2
                    have HSH := hid (show Sh (nxS l) (topS l) h g3 m i from fun b hb _ h1_ => by rw [HNX.out] at hb; injection hb with hb; subst hb; rw [HE.out, ← HCJ.out] at h1_; injection h1_ with _ h1_; exact absurd h1_ h2)
                    go_wp2_with fail
                    go_quiet (fail)
                    go_wp2_with fail
                    go_roundw
                    case rel => exact ⟨i + 1, g3, c3, rfl, by go_num, HI4.out, HI.out, (fun h_ => ⟨(HS.out.1 h_).1, (HS.out.1 h_).2.1, fun d hd => by
                     by_cases e : d = i
                     ·subst e; exact HSH.out
                     ·exact (HS.out.1 h_).2.2 d (by omega)⟩), HS.out.2, Kd.R_drewN RG.out _, pw_below_drewN HB.out _⟩
                    case measure =>
                     have := HI4.out
                     simp [intOf]
                     omega
                  ·have e2_ : decide (cj = cm + t) = false := decide_eq_false h1
                   have be2_ : ((cj) == (cm + t)) = false := by simpa using h1
                   have HSH := hid (show Sh (nxS l) (topS l) h g3 m i from fun b hb _ h1_ => by rw [HNX.out] at hb; injection hb with hb; subst hb; rw [HE.out, ← HCJ.out] at h1_; injection h1_ with h1_ _; exact absurd h1_ h1)
                   go_wp2_with fail
                   go_quiet (fail)
                   go_wp2_with fail
                   go_roundw
                   case rel => exact ⟨i + 1, g3, c3, rfl, by go_num, HI4.out, HI.out, (fun h_ => ⟨(HS.out.1 h_).1, (HS.out.1 h_).2.1, fun d hd => by
                    by_cases e : d = i
                    ·subst e; exact HSH.out
                    ·exact (HS.out.1 h_).2.2 d (by omega)⟩), HS.out.2, Kd.R_drewN RG.out _, pw_below_drewN HB.out _⟩
                   case measure =>
                    have := HI4.out
                    simp [intOf]
                    omega
             ·obtain rfl : i = 4 := by omega
              clear hi4
              have hk9 : a ≤ 900 := HN9.out
              go_wp2_with fail
              go_roundw
              case rel => exact ⟨m + 1, g3, c3, rfl, by have := HM.out; go_num, HM.out, HI.out, (fun h_ => ⟨(HS.out.1 h_).1, fun k hk d hd => by
               by_cases e : k = m
               ·subst e; exact (HS.out.1 h_).2.2 d hd
               ·exact (HS.out.1 h_).2.1 k (by omega) d hd⟩), HS.out.2, RG.out, HB.out⟩
              case measure =>
               have := HM.out
               simp [intOf]
               omega
           ·obtain rfl : m = a := by omega
            have hge : ¬ ((m : Int) < (m : Int)) := by omega
            clear hlt hm
            go_wp2_with fail
            go_roundg (if c2 = true then left g2 m + 1 else 0)
            case rel => exact ⟨g2, c2, rfl, rfl, HI.out, (fun h_ k hk d hd => (HS.out.1 h_).2 k hk d hd), RG.out, HB.out⟩
            case measure =>
             have h1 : gk = left gd m + 1 := by simpa using HGK.out
             have h2 := HS.out.2
             cases c2 with
             | false => rw [if_neg (by decide)]; omega
             | true =>
              have := h2 rfl
              rw [if_pos rfl]
              omega
         | false =>
          have HGO := hid (show Cheap.Good a (nxS l) (topS l) T h (c, r) gd from ⟨HI.out.init, HI.out.sound, fun k hk d hd b hn h1 h2 => HS.out rfl k hk d hd b hn h1 h2⟩)
          have HG0 := hid (show gd 0 = true from Cheap.good_track HG.out HREF.out HGO.out HTP.out (HREF.out.way p (HTL.out p HTP.out)) HG.out.pos (by rw [HZ0.out, HPS.out]; unfold Price.add; simp))
          clear HS HI
          go_wp2_with fail
          go_loopg [27, 28] (r.toNat + 1) (fun gk v27 v28 wr => ∃ (acc : ByteArray) (b : Nat), v27 = .string acc ∧ v28 = .int .i64 (b : Int) ∧ b < a ∧ gd b = true ∧ gk = (r - (h b).2).toNat + 1 ∧ acc ++ wayT (nxS l) (topS l) T (r - (h b).2).toNat b (c - (h b).1) = res.1 ∧ acc.size + (r - (h b).2).toNat ≤ 900 ∧ RB w6 wr b20 a c20 gd ∧ Below w6.heap.size w6 wr)
          case atStart => exact ⟨⟨#[]⟩, 0, rfl, rfl, HG.out.pos, HG0.out, by rw [HZ0.out]; show _ = (r - 0).toNat + 1; rw [Int.sub_zero], (by rw [HZ0.out, HFIN.out]; show _ ++ wayT _ _ _ (r - 0).toNat 0 (c - 0) = _; rw [Int.sub_zero, Int.sub_zero]; exact ByteArray.empty_append), (by rw [HZ0.out]; show 0 + (r - 0).toNat ≤ 900; have := HSM.out; omega), RG.out, HB.out⟩
          case round =>
           clear RG HB
           obtain ⟨acc, b, rfl, rfl, hba, hgb, hgk, hacc, hsz, hR, hB⟩ := hrel
           have HB := hid hB
           have RG := hid hR
           have HBA := hid hba
           have HGB := hid hgb
           have HGK2 := hid hgk
           have HACC := hid hacc
           have HSZ := hid hsz
           obtain ⟨⟨cb, rb⟩, hcb⟩ : ∃ p, p = h b := ⟨_, rfl⟩
           obtain ⟨r5_, _⟩ := sc_cell (Kd.R_below HR14.out HB.out) b _ (row_at (fun j => (h j).2) hba)
           simp only [← hcb] at r5_
           have HCB := hid hcb
           have hb0 : (0 : Int) ≤ (b : Int) := by omega
           have hb1 : (b : Int) < (a : Int) := by omega
           rw [← hcb] at HGK2 HACC HSZ
           clear hba hgb hgk hacc hsz hR hB hcb
           by_cases hrb : rb < r
           ·have hrd : decide (rb < r) = true := decide_eq_true hrb
            have HRB := hid hrb
            obtain ⟨f, hf⟩ : ∃ f : Nat, (r - rb).toNat = f + 1 := ⟨(r - rb).toNat - 1, by omega⟩
            have HF := hid hf
            have HSUB := hid (show Cheap.sub (c, r) (h b) = (c - cb, (f : Int) + 1) by rw [← HCB.out]; exact Prod.ext rfl (show r - rb = (f : Int) + 1 by omega))
            obtain ⟨z, hz⟩ : ∃ z, l[b]? = some z := ⟨_, List.getElem?_eq_getElem (by rw [← HN.out]; exact HBA.out)⟩
            have HZ := hid hz
            obtain ⟨_, _, _, _, _, _, _, _, _, _, _, _, m12_, m13_, m14_, m15_⟩ := nd_row (Kd.C_below HA.out HB.out) b z hz
            clear hz hrb hf
            go_wp2_with fail
            clear m12_ m13_ m14_ m15_ r5_
            go_loopw [27, 28, 239] (fun v27 v28 v239 wi => ∃ i : Nat, v27 = .string acc ∧ v28 = .int .i64 (b : Int) ∧ v239 = .int .i64 (i : Int) ∧ i ≤ 4 ∧ (∀ d j, d < i → nxS l b d = some j → leastT (nxS l) (topS l) T j ≠ some (c - cb - topS l j, (f : Int))) ∧ pickF (nxS l) (topS l) T b (c - cb) f 4 0 = pickF (nxS l) (topS l) T b (c - cb) f (4 - i) i ∧ RB w6 wi b20 a c20 gd ∧ Below w6.heap.size w6 wi) (fun _ _ v239 _ => 4 - (intOf v239).toNat)
            case atStart => exact ⟨0, rfl, rfl, rfl, by omega, (fun d j hd => absurd hd (Nat.not_lt_zero _)), rfl, RG.out, HB.out⟩
            case round =>
             clear RG HB
             obtain ⟨i, rfl, rfl, rfl, hi, hno, hpk, hR, hB⟩ := hrel
             have HB := hid hB
             have RG := hid hR
             have HNO := hid hno
             have HPK := hid hpk
             clear hno hpk hR hB
             by_cases hi4 : i < 4
             ·as_aux_lemma =>
               have HI4 := hid hi4
               have hi1 : (i : Int) < 4 := by omega
               have hix_ := index_next z i hi4
               by_cases hneg : nxI z i < 0
               ·obtain ⟨v, hv⟩ : ∃ v, v = nxI z i := ⟨_, rfl⟩
                have HNX := hid (nxS_none HZ.out hneg)
                rw [← hv] at hix_ hneg
                have e1_ : decide (0 ≤ v) = false := decide_eq_false (by omega)
                clear hi4 hv
                go_wp2_with fail
                go_quiet (fail)
                go_wp2_with fail
                go_roundw
                case rel => exact ⟨i + 1, rfl, rfl, by go_num, HI4.out, (fun d j_ hd hn => by
                 by_cases e : d = i
                 ·subst e
                  rw [HNX.out] at hn
                  cases hn
                 ·exact HNO.out d j_ (by omega) hn), (by rw [HPK.out, show 4 - i = (4 - (i + 1)) + 1 by have := HI4.out; omega, Cheap.pick_no (fun b_ hn => by rw [HNX.out] at hn; cases hn)]), Kd.R_drewN RG.out _, pw_below_drewN HB.out _⟩
                case measure =>
                 have := HI4.out
                 simp [intOf]
                 omega
               ·obtain ⟨j, hj⟩ : ∃ j : Nat, nxI z i = (j : Int) := ⟨(nxI z i).toNat, by omega⟩
                have HNX := hid (nxS_some HZ.out hj)
                have hja := HG.out.lt b i j HBA.out hi4 HNX.out
                have HJA := hid hja
                have HIFF := hid (show (gd j = true ∧ h j = edge (topS l) (h b) j) ↔ leastT (nxS l) (topS l) T j = some (c - cb - topS l j, (f : Int)) by
                 have h_ := Cheap.good_iff HG.out HREF.out HGO.out HBA.out HGB.out hi4 HNX.out
                 rw [HSUB.out] at h_
                 rw [h_, show (f : Int) + 1 - 1 = (f : Int) by omega])
                rw [hj] at hix_
                have hj0 : (0 : Int) ≤ (j : Int) := by omega
                have hj1 : (j : Int) < (a : Int) := by omega
                have e1_ : decide (0 ≤ (j : Int)) = true := decide_eq_true (by omega)
                obtain ⟨d8_, _⟩ := sc_cell RG.out j _ (row_at gd hja)
                obtain ⟨dj, hdj⟩ : ∃ dj, dj = gd j := ⟨_, rfl⟩
                rw [← hdj] at d8_
                have HDJ := hid hdj
                clear hneg hj hja hi4 hdj
                cases dj with
                | false =>
                 have HL := hid (show ¬ leastT (nxS l) (topS l) T j = some (c - cb - topS l j, (f : Int)) from fun h_ => by
                  have h2_ := (HIFF.out.2 h_).1
                  rw [← HDJ.out] at h2_
                  cases h2_)
                 go_wp2_with fail
                 go_quiet (fail)
                 go_wp2_with fail
                 go_roundw
                 case rel => exact ⟨i + 1, rfl, rfl, by go_num, HI4.out, (fun d j_ hd hn => by
                  by_cases e : d = i
                  ·subst e
                   rw [HNX.out] at hn
                   injection hn with hn; subst hn; exact HL.out
                  ·exact HNO.out d j_ (by omega) hn), (by rw [HPK.out, show 4 - i = (4 - (i + 1)) + 1 by have := HI4.out; omega, Cheap.pick_no (fun b_ hn => by rw [HNX.out] at hn; injection hn with hn; subst hn; exact HL.out)]), Kd.R_drewN RG.out _, pw_below_drewN HB.out _⟩
                 case measure =>
                  have := HI4.out
                  simp [intOf]
                  omega
                | true =>
                 obtain ⟨c6_, _⟩ := sc_cell (Kd.R_below HR13.out HB.out) b _ (row_at (fun j => (h j).1) HBA.out)
                 obtain ⟨r6_, _⟩ := sc_cell (Kd.R_below HR14.out HB.out) b _ (row_at (fun j => (h j).2) HBA.out)
                 simp only [← HCB.out] at c6_ r6_
                 obtain ⟨⟨cj, rj⟩, hcj⟩ : ∃ x, x = h j := ⟨_, rfl⟩
                 obtain ⟨c8_, _⟩ := sc_cell (Kd.R_below HR13.out HB.out) j _ (row_at (fun j => (h j).1) HJA.out)
                 obtain ⟨r8_, _⟩ := sc_cell (Kd.R_below HR14.out HB.out) j _ (row_at (fun j => (h j).2) HJA.out)
                 simp only [← hcj] at c8_ r8_
                 obtain ⟨y2, hy2⟩ : ∃ y2, l[j]? = some y2 := ⟨_, List.getElem?_eq_getElem (by rw [← HN.out]; exact HJA.out)⟩
                 obtain ⟨_, _, m2_, _, _, _, _, _, _, _, _, _, _, _, _, _⟩ := nd_row (Kd.C_below HA.out HB.out) j y2 hy2
                 obtain ⟨t, ht⟩ : ∃ t, t = y2.f0.f2.f0 := ⟨_, rfl⟩
                 rw [← ht] at m2_
                 have HT := hid (show topS l j = t by unfold topS; rw [hy2, ht])
                 have HCJ := hid hcj
                 have hb_ := HREF.out.small b HBA.out
                 rw [← HCB.out] at hb_
                 have ht_ := HG.out.top j HJA.out
                 rw [HT.out] at ht_
                 simp only at hb_
                 have hw1_ : IntKind.i64.wrap (cb + t) = cb + t := IntWalk.i64_in _ (by omega)
                 have hw2_ : IntKind.i64.wrap (rb + 1) = rb + 1 := IntWalk.i64_in _ (by omega)
                 have HE := hid (show edge (topS l) (h b) j = (cb + t, rb + 1) by rw [← HCB.out, ← HT.out]; rfl)
                 clear hy2 ht hb_ ht_ hcj
                 by_cases h1 : cj = cb + t
                 ·have e2_ : decide (cj = cb + t) = true := decide_eq_true h1
                  have be2_ : ((cj) == (cb + t)) = true := by simpa using h1
                  by_cases h2 : rj = rb + 1
                  ·have e3_ : decide (rj = rb + 1) = true := decide_eq_true h2
                   have be3_ : ((rj) == (rb + 1)) = true := by simpa using h2
                   have HED := hid (show h j = edge (topS l) (h b) j by rw [HE.out, ← HCJ.out, h1, h2])
                   have HL := hid (HIFF.out.1 ⟨HDJ.out.symm, HED.out⟩)
                   have HJ2 := hid (show h j = (cb + t, rb + 1) by rw [← HCJ.out, h1, h2])
                   have HACC2 := hid (show (acc ++ letter i) ++ wayT (nxS l) (topS l) T (r - (h j).2).toNat j (c - (h j).1) = res.1 by
                    rw [← HACC.out, ByteArray.append_assoc]
                    (try simp only)
                    rw [HF.out, Cheap.way_step (by rw [HPK.out, show 4 - i = (3 - i) + 1 by have := HI4.out; omega]; exact Cheap.pick_yes HNX.out HL.out), HJ2.out]
                    (try simp only)
                    rw [show (r - (rb + 1)).toNat = f by have := HF.out; omega, show c - (cb + t) = c - cb - topS l j by rw [HT.out]; omega])
                   have hw3_ : IntKind.i64.wrap ((i : Int) + 1) = (i : Int) + 1 := IntWalk.i64_in _ (by have h_ := HI4.out; omega)
                   have hsl_ := slice_dir i HI4.out
                   have hsz_ : acc.size + (letter i).size ≤ 9223372036854775807 := by rw [letter_size]; have := HSZ.out; omega
                   go_wp2_with fail
                   go_quiet (fail)
                   have n_HB := hid (pw_below_drewN HB.out nq)
                   have n_RG := hid (Kd.R_drewN RG.out nq)
                   clear HB RG d8_
                   have HB := n_HB
                   have RG := n_RG
                   clear n_HB n_RG
                   generalize World.drewN _ _ = w40 at HB RG ⊢
                   go_wp2_with fail
                   refine (dirs_calls _).mono ?_
                   rintro e' w41 ⟨rfl, hb⟩
                   have n_HB := hid (below_then HB.out HB.out.size hb)
                   have n_RG := hid (Kd.R_below RG.out hb)
                   clear HB RG hb
                   go_wp2_with fail
                   go_roundg ((r - (h j).2).toNat + 1)
                   case rel => exact ⟨acc ++ letter i, j, rfl, rfl, HJA.out, HDJ.out.symm, rfl, HACC2.out, (by rw [ByteArray.size_append, letter_size, HJ2.out]; have := HSZ.out; have := HF.out; simp only at *; omega), n_RG.out, n_HB.out⟩
                   case measure =>
                    rw [HJ2.out]
                    have := HGK2.out
                    have := HF.out
                    simp only at *
                    omega
                  ·have e3_ : decide (rj = rb + 1) = false := decide_eq_false h2
                   have be3_ : ((rj) == (rb + 1)) = false := by simpa using h2
                   have HL := hid (show ¬ leastT (nxS l) (topS l) T j = some (c - cb - topS l j, (f : Int)) from fun h_ => by have h1_ := (HIFF.out.2 h_).2; rw [HE.out, ← HCJ.out] at h1_; injection h1_ with _ h1_; exact absurd h1_ h2)
                   go_wp2_with fail
                   go_quiet (fail)
                   go_wp2_with fail
                   go_roundw
                   case rel => exact ⟨i + 1, rfl, rfl, by go_num, HI4.out, (fun d j_ hd hn => by
                    by_cases e : d = i
                    ·subst e
                     rw [HNX.out] at hn
                     injection hn with hn; subst hn; exact HL.out
                    ·exact HNO.out d j_ (by omega) hn), (by rw [HPK.out, show 4 - i = (4 - (i + 1)) + 1 by have := HI4.out; omega, Cheap.pick_no (fun b_ hn => by rw [HNX.out] at hn; injection hn with hn; subst hn; exact HL.out)]), Kd.R_drewN RG.out _, pw_below_drewN HB.out _⟩
                   case measure =>
                    have := HI4.out
                    simp [intOf]
                    omega
                 ·have e2_ : decide (cj = cb + t) = false := decide_eq_false h1
                  have be2_ : ((cj) == (cb + t)) = false := by simpa using h1
                  have HL := hid (show ¬ leastT (nxS l) (topS l) T j = some (c - cb - topS l j, (f : Int)) from fun h_ => by have h1_ := (HIFF.out.2 h_).2; rw [HE.out, ← HCJ.out] at h1_; injection h1_ with h1_ _; exact absurd h1_ h1)
                  go_wp2_with fail
                  go_quiet (fail)
                  go_wp2_with fail
                  go_roundw
                  case rel => exact ⟨i + 1, rfl, rfl, by go_num, HI4.out, (fun d j_ hd hn => by
                   by_cases e : d = i
                   ·subst e
                    rw [HNX.out] at hn
                    injection hn with hn; subst hn; exact HL.out
                   ·exact HNO.out d j_ (by omega) hn), (by rw [HPK.out, show 4 - i = (4 - (i + 1)) + 1 by have := HI4.out; omega, Cheap.pick_no (fun b_ hn => by rw [HNX.out] at hn; injection hn with hn; subst hn; exact HL.out)]), Kd.R_drewN RG.out _, pw_below_drewN HB.out _⟩
                  case measure =>
                   have := HI4.out
                   simp [intOf]
                   omega
             ·exfalso
              obtain rfl : i = 4 := by omega
              obtain ⟨d, j, h1, h2, h3, h4⟩ := Cheap.good_goes HG.out HREF.out HGO.out HBA.out HGB.out (by rw [← HCB.out]; exact HRB.out)
              refine HNO.out d j h1 h2 ?_
              have h_ := (Cheap.good_iff HG.out HREF.out HGO.out HBA.out HGB.out h1 h2).1 ⟨h3, h4⟩
              rw [HSUB.out] at h_
              rw [h_, show (f : Int) + 1 - 1 = (f : Int) by omega]
           ·have hrd : decide (rb < r) = false := decide_eq_false hrb
            have hw0 : (r - rb).toNat = 0 := by omega
            have hfin : Ending.returned (.tuple #[.string acc, .int .i64 c, .bool true]) = Ending.returned (.tuple #[.string res.1, .int .i64 res.2.1, .bool res.2.2]) := by
             rw [← HACC.out]
             simp only
             rw [hw0, Cheap.way_nil, HFIN.out, show acc ++ (⟨#[]⟩ : ByteArray) = acc from ByteArray.append_empty]
            clear hrb hw0
            go_wp2_with fail
            go_ret3
            exact ⟨hfin, below_then HB0.out HB0.out.size HB.out⟩
end Go.Proofs.YtkoejpimalbhbaaDoor.CheapR
