/- The graph of the states that have been found, a row of prices in memory: laws. Conditions: none. -/
import Derived.Test.YtkoejpimalbhbaaDoorOn
import Derived.Test.YtkoejpimalbhbaaDoorReachR
import Derived.KernelRfl
import Derived.Test.YtkoejpimalbhbaaDoorPrice
namespace Go.Proofs.YtkoejpimalbhbaaDoor.To
open Go.RowKit Go.Proofs.YtkoejpimalbhbaaDoorW.PrintWords Go.Proofs.YtkoejpimalbhbaaDoorW.PrintLast Go.Proofs.YtkoejpimalbhbaaDoor.QBo Go.Proofs.YtkoejpimalbhbaaDoor.Board Go.Proofs.YtkoejpimalbhbaaDoor.BaseR Go.Proofs.YtkoejpimalbhbaaDoor.ReachR Go.Proofs.YtkoejpimalbhbaaDoor.Search Go.Proofs.YtkoejpimalbhbaaDoor.On Go.Proofs.YtkoejpimalbhbaaDoor.Maps
open Go.Proofs.YtkoejpimalbhbaaDoor.Reach (St)
set_option linter.unusedVariables false
set_option linter.unusedSimpArgs false

def atI (L : Bfs.Nodes St) (u : St) : Int := match Maps.place u 0 (L.map (·.1)) with
 | some j => (j : Int)
 | none => -1
end Go.Proofs.YtkoejpimalbhbaaDoor.To
namespace Go.Proofs.YtkoejpimalbhbaaDoor.At
open Go.RowKit Go.Proofs.YtkoejpimalbhbaaDoorW.PrintWords Go.Proofs.YtkoejpimalbhbaaDoor.Board Go.Proofs.YtkoejpimalbhbaaDoor.BaseR Go.Proofs.YtkoejpimalbhbaaDoor.ReachR Go.Proofs.YtkoejpimalbhbaaDoor.Search Go.Proofs.YtkoejpimalbhbaaDoor.On Go.Proofs.YtkoejpimalbhbaaDoor.To
open Go.Proofs.YtkoejpimalbhbaaDoor.Reach (St)
set_option linter.unusedVariables false
set_option linter.unusedSimpArgs false

theorem place_get {u : St} : ∀ {l : List St} {j k : Nat}, Maps.place u j l = some k → j ≤ k ∧ l[k - j]? = some u
 | [], j, k, h => by simp [Maps.place] at h
 | y :: l, j, k, h => by
  unfold Maps.place at h
  by_cases e : u = y
  ·rw [if_pos e] at h
   injection h with h
   subst h
   simp [e]
  ·rw [if_neg e] at h
   obtain ⟨h1, h2⟩ := place_get h
   refine ⟨by omega, ?_⟩
   rw [show k - j = (k - (j + 1)) + 1 from by omega, List.getElem?_cons_succ]
   exact h2
end Go.Proofs.YtkoejpimalbhbaaDoor.At
namespace Go.Proofs.YtkoejpimalbhbaaDoor.IntR
open Go.RowKit Go.Proofs.YtkoejpimalbhbaaDoorW.PrintWords Go.Proofs.YtkoejpimalbhbaaDoorW.PrintLast Go.Proofs.YtkoejpimalbhbaaDoor.ReachR
open Go.Proofs.YtkoejpimalbhbaaDoor.Reach (St)
set_option linter.unusedVariables false
set_option linter.unusedSimpArgs false

theorem infoI : (Tryd.prog.info? 3).map (fun i => (i.zero, i.size, i.bytes)) = some (some (.int .i64 0), 1, 8) := by kernel_rfl
end Go.Proofs.YtkoejpimalbhbaaDoor.IntR
namespace Go.Proofs.YtkoejpimalbhbaaDoor.PriceG
open Go.RowKit Go.Proofs.YtkoejpimalbhbaaDoorW.PrintWords Go.Proofs.YtkoejpimalbhbaaDoorW.PrintLast Go.Proofs.YtkoejpimalbhbaaDoor.QBo Go.Proofs.YtkoejpimalbhbaaDoor.Board Go.Proofs.YtkoejpimalbhbaaDoor.BaseR Go.Proofs.YtkoejpimalbhbaaDoor.ReachR Go.Proofs.YtkoejpimalbhbaaDoor.Search Go.Proofs.YtkoejpimalbhbaaDoor.On Go.Proofs.YtkoejpimalbhbaaDoor.To Go.Proofs.YtkoejpimalbhbaaDoor.Maps
open Go.Proofs.YtkoejpimalbhbaaDoor.Reach (St)
open Go.Proofs.YtkoejpimalbhbaaDoor.Reached (byt mvf)
open Go.Proofs.YtkoejpimalbhbaaDoor.Price (put put_self put_ne)
set_option linter.unusedVariables false
set_option linter.unusedSimpArgs false

def nxL (f : Int → Int → Bool) (L : Bfs.Nodes St) (k d : Nat) : Option Nat := match L[k]? with
 | none => none
 | some x => if canF f x.1 d = true then Maps.place (moved x.1 d) 0 (L.map (·.1)) else none
def topL (L : Bfs.Nodes St) (j : Nat) : Int := match L[j]? with
 | none => 0
 | some x => x.1.d.t
theorem place_in {u : St} : ∀ {l : List St} {j : Nat}, u ∈ l → ∃ p, Maps.place u j l = some p
 | [], j, h => by simp at h
 | y :: l, j, h => by
  unfold Maps.place
  by_cases e : u = y
  ·exact ⟨j, by rw [if_pos e]⟩
  ·rw [if_neg e]
   exact place_in (by
    rcases List.mem_cons.1 h with h | h
    ·exact absurd h e
    ·exact h)
section
variable {f : Int → Int → Bool} {t : St} {L : Bfs.Nodes St} (hd : Bfs.Done (mvf moved (canF f)) t L)
include hd
theorem goes {k i : Nat} {x : St × List Nat} (hx : L[k]? = some x) (hi : i < 4) (hc : canF f x.1 i = true) : ∃ p y, Maps.place (moved x.1 i) 0 (L.map (·.1)) = some p ∧ L[p]? = some y ∧ y.1 = moved x.1 i ∧ p < L.length := by
 obtain ⟨v, hv, _⟩ := hd.shut x.1 x.2 (List.mem_of_getElem? hx) i (moved x.1 i) hi (by unfold mvf; rw [if_pos hc])
 obtain ⟨p, hp⟩ := place_in (u := moved x.1 i) (l := L.map (·.1)) (j := 0) (List.mem_map.2 ⟨_, hv, rfl⟩)
 obtain ⟨_, h2⟩ := At.place_get hp
 rw [Nat.sub_zero, List.getElem?_map] at h2
 cases hy : L[p]? with
 | none => rw [hy] at h2; cases h2
 | some y =>
  rw [hy, Option.map_some] at h2
  injection h2 with h2
  exact ⟨p, y, hp, hy, h2, (List.getElem?_eq_some_iff.1 hy).1⟩
omit hd in
theorem nx_no {k i : Nat} {x : St × List Nat} (hx : L[k]? = some x) (hc : canF f x.1 i = false) : nxL f L k i = none := by
 unfold nxL
 rw [hx]
 simp only
 rw [hc, if_neg (by decide)]
omit hd in
theorem nx_yes {k i p : Nat} {x : St × List Nat} (hx : L[k]? = some x) (hc : canF f x.1 i = true) (hp : Maps.place (moved x.1 i) 0 (L.map (·.1)) = some p) : nxL f L k i = some p := by
 unfold nxL
 rw [hx]
 simp only
 rw [if_pos hc, hp]
omit hd in
theorem apart_at (ha : L.Pairwise fun x y => x.1 ≠ y.1) {p j : Nat} {x y : St × List Nat} (hx : L[p]? = some x) (hy : L[j]? = some y) (he : x.1 = y.1) : p = j := by
 obtain ⟨hp, rfl⟩ := List.getElem?_eq_some_iff.1 hx
 obtain ⟨hj, rfl⟩ := List.getElem?_eq_some_iff.1 hy
 rcases Nat.lt_trichotomy p j with h | h | h
 ·exact absurd he (List.pairwise_iff_getElem.1 ha p j hp hj h)
 ·exact h
 ·exact absurd he.symm (List.pairwise_iff_getElem.1 ha j p hj hp h)
theorem graph (hgd : ∀ x ∈ L, 0 ≤ x.1.d.t ∧ x.1.d.t ≤ 9) (hl : L.length ≤ 900) : Price.Graph L.length (nxL f L) (topL L) where
 lt := fun k d j hk hd4 h => by
  obtain ⟨x, hx⟩ : ∃ x, L[k]? = some x := ⟨_, List.getElem?_eq_getElem hk⟩
  by_cases hc : canF f x.1 d = true
  ·obtain ⟨p, y, h1, h2, h3, h4⟩ := goes hd hx hd4 hc
   rw [nx_yes hx hc h1] at h
   injection h with h
   omega
  ·rw [nx_no hx (by simpa using hc)] at h
   cases h
 top := fun j hj => by
  unfold topL
  rw [List.getElem?_eq_getElem hj]
  exact hgd _ (List.getElem_mem _)
 pos := (List.getElem?_eq_some_iff.1 hd.root).1
 small := hl
end
abbrev kP : Kd (Int × Int) := Kd.pair (Kd.int .i64) (Kd.int .i64)
abbrev PT := 60
theorem infoP : (Tryd.prog.info? 60).map (fun i => (i.zero, i.size, i.bytes)) = some (some (.agg #[.int .i64 0, .int .i64 0]), 2, 16) := by kernel_rfl
theorem kP_mkM (w : World) (base : Nat) (ok : Nat → Prop) (x : Int × Int) : kP.M w base ok x [.int .i64 x.1, .int .i64 x.2] := ⟨[_], [_], rfl, rfl, rfl⟩
theorem kP_openM {w : World} {base : Nat} {ok : Nat → Prop} {x : Int × Int} {cs : List Value} (h : kP.M w base ok x cs) : cs = [.int .i64 x.1, .int .i64 x.2] := by
 obtain ⟨c0, c1, rfl, h0, h1⟩ := h
 have e0 : c0 = [.int .i64 x.1] := h0
 have e1 : c1 = [.int .i64 x.2] := h1
 rw [e0, e1]
 rfl
theorem pr_elem {e base b c n : Nat} {ok : Nat → Prop} {w : World} {xs : List (Int × Int)} (h : Kd.R kP e w base ok (.slice (some ⟨b, 0, none⟩) n c) xs) (k : Nat) (x : Int × Int) (hx : xs[k]? = some x) :
  (∀ j u, ([.int .i64 x.1, .int .i64 x.2] : List Value)[j]? = some u → w.cell? ⟨b, k * 2 + j, none⟩ = some u) ∧ ∀ j, w.frozen? ⟨b, k * 2 + j, none⟩ = false := by
 obtain ⟨hk, hv⟩ := List.getElem?_eq_some_iff.1 hx
 have hn := (Kd.R_reads' h).1
 obtain ⟨ce, hcl, hM, hcc, hfr⟩ := Kd.R_elem h x (k : Int) (by omega) (by omega)
 have hg : xs.getD (k : Int).toNat x = x := by
  rw [Int.toNat_natCast, List.getD_eq_getElem?_getD, hx]
  rfl
 rw [hg] at hM
 obtain rfl := kP_openM hM
 exact ⟨hcc, hfr⟩
theorem pr_cells {e base b c n : Nat} {ok : Nat → Prop} {w : World} {xs : List (Int × Int)} (h : Kd.R kP e w base ok (.slice (some ⟨b, 0, none⟩) n c) xs) (k : Nat) (x : Int × Int) (hx : xs[k]? = some x) :
  (w.cell? ⟨b, k * 2, none⟩ = some (.int .i64 x.1) ∧ w.cell? ⟨b, k * 2 + 1, none⟩ = some (.int .i64 x.2)) ∧ w.frozen? ⟨b, k * 2, none⟩ = false ∧ w.frozen? ⟨b, k * 2 + 1, none⟩ = false := by
 obtain ⟨h1, h2⟩ := pr_elem h k x hx
 exact ⟨⟨h1 0 _ rfl, h1 1 _ rfl⟩, h2 0, h2 1⟩
theorem pr_put1 {e base b c n : Nat} {ok : Nat → Prop} {w : World} {xs : List (Int × Int)} (h : Kd.R kP e w base ok (.slice (some ⟨b, 0, none⟩) n c) xs) (k : Nat) (x : Int × Int) (hx : xs[k]? = some x) (v : Int) :
  Kd.R kP e (w.setCell ⟨b, k * 2, none⟩ (.int .i64 v)) base ok (.slice (some ⟨b, 0, none⟩) n c) (xs.set k (v, x.2)) ∧ w.grownBy (w.setCell ⟨b, k * 2, none⟩ (.int .i64 v)) (some b) := by
 obtain ⟨hk, hv⟩ := List.getElem?_eq_some_iff.1 hx
 have hn := (Kd.R_reads' h).1
 exact Kd.R_seg h (k : Int) (by omega) (by omega) (c := [.int .i64 x.1, .int .i64 x.2]) (seg := [.int .i64 v]) (j := 0) (okp := fun k => ok k ∧ k ≠ b) (x' := (v, x.2)) rfl (pr_elem h k x hx).1 (show 0 + 1 ≤ 2 by decide) (kP_mkM _ _ _ (v, x.2)) (fun _ hk => hk)
theorem pr_put2 {e base b c n : Nat} {ok : Nat → Prop} {w : World} {xs : List (Int × Int)} (h : Kd.R kP e w base ok (.slice (some ⟨b, 0, none⟩) n c) xs) (k : Nat) (x y : Int × Int) (hx : xs[k]? = some x) :
  Kd.R kP e ((w.setCell ⟨b, k * 2, none⟩ (.int .i64 y.1)).setCell ⟨b, k * 2 + 1, none⟩ (.int .i64 y.2)) base ok (.slice (some ⟨b, 0, none⟩) n c) (xs.set k y) ∧ w.grownBy ((w.setCell ⟨b, k * 2, none⟩ (.int .i64 y.1)).setCell ⟨b, k * 2 + 1, none⟩ (.int .i64 y.2)) (some b) := by
 obtain ⟨hk, hv⟩ := List.getElem?_eq_some_iff.1 hx
 have hn := (Kd.R_reads' h).1
 exact Kd.R_seg h (k : Int) (by omega) (by omega) (c := [.int .i64 x.1, .int .i64 x.2]) (seg := [.int .i64 y.1, .int .i64 y.2]) (j := 0) (okp := fun k => ok k ∧ k ≠ b) (x' := y) rfl (pr_elem h k x hx).1 (show 0 + 2 ≤ 2 by decide) (kP_mkM _ _ _ y) (fun _ hk => hk)
def rowF {α : Type} (n : Nat) (g : Nat → α) : List α := (List.range n).map g
theorem row_at {α : Type} {n k : Nat} (g : Nat → α) (hk : k < n) : (rowF n g)[k]? = some (g k) := by
 unfold rowF
 rw [List.getElem?_map, List.getElem?_range hk]
 rfl
theorem row_len {α : Type} (n : Nat) (g : Nat → α) : (rowF n g).length = n := by simp [rowF]
theorem row_set {α : Type} {n k : Nat} (g : Nat → α) (v : α) : (rowF n g).set k v = rowF n (put g k v) := by
 apply List.ext_getElem?
 intro j
 rw [List.getElem?_set]
 by_cases hj : j < n
 ·rw [row_at (put g k v) hj, row_len]
  by_cases e : k = j
  ·subst e
   rw [if_pos rfl, if_pos hj, put_self]
  ·rw [if_neg e, row_at g hj, put_ne (fun h => e h.symm)]
 ·rw [List.getElem?_eq_none (by rw [row_len]; omega), List.getElem?_eq_none (by rw [row_len]; omega), row_len]
  split
  ·split
   ·omega
   ·rfl
  ·rfl
theorem row_congr {α : Type} {n : Nat} {g h : Nat → α} (he : ∀ k, k < n → g k = h k) : rowF n g = rowF n h := by
 unfold rowF
 exact List.map_congr_left fun k hk => he k (List.mem_range.1 hk)
theorem row_rep {α : Type} (n : Nat) (v : α) : List.replicate n v = rowF n (fun _ => v) := by
 apply List.ext_getElem?
 intro j
 by_cases hj : j < n
 ·rw [row_at _ hj, List.getElem?_replicate, if_pos hj]
 ·rw [List.getElem?_eq_none (by rw [List.length_replicate]; omega), List.getElem?_eq_none (by rw [row_len]; omega)]
end Go.Proofs.YtkoejpimalbhbaaDoor.PriceG
