/- The reference's costs: their call, told in plain words. Conditions: none. -/
import Derived.Test.YtkoejpimalbhbaaDoorCosts
namespace Go.Proofs.YtkoejpimalbhbaaDoor.CostF
open Go.RowKit Go.Proofs.YtkoejpimalbhbaaDoorW.PrintWords Go.Proofs.YtkoejpimalbhbaaDoorW.PrintLast Go.Proofs.YtkoejpimalbhbaaDoor.QBs Go.Proofs.YtkoejpimalbhbaaDoor.WyR Go.Proofs.YtkoejpimalbhbaaDoor.PriceG Go.Proofs.YtkoejpimalbhbaaDoor.WyNx Go.Proofs.YtkoejpimalbhbaaDoor.Search
open Go.Proofs.YtkoejpimalbhbaaDoor.Price (Graph leastP)
open Go.Proofs.YtkoejpimalbhbaaDoor.Reach (St)
set_option linter.unusedVariables false
set_option linter.unusedSimpArgs false

def gOk (l : List SN) : Bool := (decide (0 < l.length) && decide (l.length ≤ 900)) && l.all fun z => (decide (0 ≤ z.f0.f2.f0) && decide (z.f0.f2.f0 ≤ 9)) && (List.range 4).all fun d => decide (nxI z d < (l.length : Int))
theorem graph_of {l : List SN} (h : gOk l = true) : Graph l.length (nxS l) (topS l) := by
 unfold gOk at h
 simp only [Bool.and_eq_true, decide_eq_true_eq, List.all_eq_true] at h
 obtain ⟨⟨h1, h2⟩, h3⟩ := h
 refine ⟨fun k d j hk hd hn => ?_, fun j hj => ?_, h1, h2⟩
 ·have hz := h3 l[k] (List.getElem_mem hk)
  have := hz.2 d (List.mem_range.2 hd)
  unfold nxS at hn
  rw [List.getElem?_eq_getElem hk] at hn
  simp only at hn
  by_cases hx : nxI l[k] d < 0
  ·rw [if_pos hx] at hn
   cases hn
  ·rw [if_neg hx] at hn
   injection hn with hn
   omega
 ·have hz := h3 l[j] (List.getElem_mem hj)
  unfold topS
  rw [List.getElem?_eq_getElem hj]
  exact hz.1
def lp (l : List SN) (k : Nat) : Int × Int := (leastP (nxS l) (topS l) 0 k).getD (-1, 0)
def costF (l : List SN) : Option (List Int × List Int) := if gOk l = true then some (rowF l.length fun k => (lp l k).1, rowF l.length fun k => (lp l k).2) else none
theorem costs_calls (A0 : Option Addr) (c1 : Nat) (l : List SN) (r1 r2 : List Int) (w : World) (hr0 : Kd.C kNd w A0 l.length l) (hc0 : l.length ≤ c1) (h : costF l = some (r1, r2)) :
  Calls Tryd.prog 11 #[.slice A0 l.length c1] w fun e w' => ∃ v0_ v1_ : Value, e = .returned (.tuple #[v0_, v1_]) ∧ Kd.R (Kd.int .i64) 3 w' w.heap.size (fun _ => True) v0_ r1 ∧ Kd.R (Kd.int .i64) 3 w' w.heap.size (fun _ => True) v1_ r2 ∧ Below w.heap.size w w' := by
 unfold costF at h
 by_cases hg : gOk l = true
 ·rw [if_pos hg] at h
  have h := Option.some.inj h
  injection h with h1 h2
  have hG := graph_of hg
  refine (Costs.costs_walk A0 c1 l w hr0 hc0 hG).mono ?_
  rintro e w' ⟨v0, v1, g, dn, he, hD, hE, hr1, hr2, hb⟩
  have hk : ∀ k, k < l.length → g k = lp l k := fun k hk => (Price.dij_leastP hG hD hE hk).symm
  refine ⟨v0, v1, he, ?_, ?_, hb⟩
  ·rw [← h1, row_congr (h := fun k => (g k).1) (fun k hk' => by rw [hk k hk'])]
   exact hr1
  ·rw [← h2, row_congr (h := fun k => (g k).2) (fun k hk' => by rw [hk k hk'])]
   exact hr2
 ·rw [if_neg hg] at h
  cases h
section
variable {fl : Int → Int → Bool} {W H : Nat} (hB : Box fl W H) {t : St} (h0 : Gd fl t)
include hB h0
theorem nodes_ok : gOk ((nodes fl W t).map sNd) = true := by
 have hn := nodes_len hB h0
 have hl := found_length hB h0
 have hp := found_pos hB h0
 have hd := found_done hB h0
 have hG := graph hd (fun x hx => (good_iff (found_gd hB h0 hx).2).1) (by omega)
 unfold gOk
 simp only [Bool.and_eq_true, decide_eq_true_eq, List.all_eq_true]
 refine ⟨⟨by omega, by omega⟩, fun z hz => ?_⟩
 obtain ⟨k, hk, rfl⟩ := List.getElem_of_mem hz
 refine ⟨?_, fun d hd4 => ?_⟩
 ·have ht := top_eq hB h0 k
  have := hG.top k (by rw [← hn]; exact hk)
  rw [← ht] at this
  unfold topS at this
  rw [List.getElem?_eq_getElem hk] at this
  exact this
 ·by_cases hx : nxI ((nodes fl W t).map sNd)[k] d < 0
  ·omega
  ·have hd4 := List.mem_range.1 hd4
   have hnx : nxS ((nodes fl W t).map sNd) k d = some (nxI ((nodes fl W t).map sNd)[k] d).toNat := by
    unfold nxS
    rw [List.getElem?_eq_getElem hk]
    simp only
    rw [if_neg hx]
   rw [nx_eq hB h0 k d hd4] at hnx
   have := hG.lt k d _ (by rw [← hn]; exact hk) hd4 hnx
   rw [hn]
   omega
theorem lp_eq (k : Nat) : lp ((nodes fl W t).map sNd) k = (leastP (nxL fl (found fl t)) (topL (found fl t)) 0 k).getD (-1, 0) := by
 unfold lp
 rw [Price.leastP_congr (fun a d hd => nx_eq hB h0 a d hd) (fun j => top_eq hB h0 j)]
end
end Go.Proofs.YtkoejpimalbhbaaDoor.CostF
