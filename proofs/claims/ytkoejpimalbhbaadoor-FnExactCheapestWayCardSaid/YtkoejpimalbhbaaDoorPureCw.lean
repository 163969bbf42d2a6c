/- Plain law: the first cheapest word to a cell is the reference's. Conditions: none. -/
import Derived.Test.YtkoejpimalbhbaaDoorQCwx
import Derived.Test.YtkoejpimalbhbaaDoorCheapI
import Derived.Test.YtkoejpimalbhbaaDoorCheapF
namespace Go.Proofs.YtkoejpimalbhbaaDoor.PureCw
open Go.RowKit Go.Proofs.YtkoejpimalbhbaaDoor.QCw Go.Proofs.YtkoejpimalbhbaaDoor.Board Go.Proofs.YtkoejpimalbhbaaDoor.BaseR Go.Proofs.YtkoejpimalbhbaaDoor.Search Go.Proofs.YtkoejpimalbhbaaDoor.On Go.Proofs.YtkoejpimalbhbaaDoor.WyR Go.Proofs.YtkoejpimalbhbaaDoor.PriceG Go.Proofs.YtkoejpimalbhbaaDoor.WyNx Go.Proofs.YtkoejpimalbhbaaDoor.CheapR
open Go.Proofs.YtkoejpimalbhbaaDoor.CellR (cellOk test)
open Go.Proofs.YtkoejpimalbhbaaDoor.QBw (spec_wyCell.f spec_boAsked.f spec_boCell.f spec_wyAll.f)
open Go.Proofs.YtkoejpimalbhbaaDoor.Reach (St)
open Go.Proofs.YtkoejpimalbhbaaDoor.Reached (mvf)
set_option linter.unusedVariables false
set_option linter.unusedSimpArgs false

section
open Go.Proofs.YtkoejpimalbhbaaDoor.QBw
theorem ask_eq (s : ByteArray) (x y a0 a1 a2 a3 a4 a5 : Int) (k : Nat) (hk : 3 * s.size + 10 < k) :
  spec_boAsked.f k s x y a0 a1 a2 a3 a4 a5 = some (if isB okB s.data.toList = true then ((wide s.data.toList : Int), (high s.data.toList : Int), ints (cells s.data.toList), stateB s.data.toList x y a0 a1 a2 a3 a4 a5) else nope) := asked_at s x y a0 a1 a2 a3 a4 a5 k hk
theorem wyCell_at (s : ByteArray) (t : St) (x y : Int) (k : Nat) (hk : 3 * s.size + 1100 < k) : spec_wyCell.f k s t.x t.y t.d.t t.d.n t.d.e t.d.s t.d.w t.d.b x y =
  some (if cellOk s t x y = true then ((nodes (fl s) (wide s.data.toList) t).map sNd, true) else ([], false)) := by
 unfold spec_wyCell.f cellOk
 rw [ask_eq s _ _ _ _ _ _ _ _ _ (by omega), Option.bind_some]
 cases hc : isB okB s.data.toList with
 | false =>
  have ha : askB s t = false := by
   unfold askB
   rw [hc]
   rfl
  rw [ha]
  rfl
 | true =>
  have hi := isB_iff.1 hc
  rw [if_pos rfl]
  simp only
  cases hst : stateB s.data.toList t.x t.y t.d.t t.d.n t.d.e t.d.s t.d.w t.d.b with
  | false =>
   have ha : askB s t = false := by
    unfold askB
    rw [hc, hst]
    rfl
   rw [ha]
   rfl
  | true =>
   have ha : askB s t = true := by
    unfold askB
    rw [hc, hst]
    rfl
   rw [if_pos rfl, show spec_boCell.f _ _ _ _ _ = _ from cell_eq s.data.toList hi (ints (cells s.data.toList)) x y, Option.bind_some, ha, Bool.true_and]
   cases hasB s.data.toList x y with
   | false => rfl
   | true =>
    obtain ⟨_, hg⟩ := ask_iff.1 ha
    have h1 := wyF_eq hi hg
    rw [if_pos rfl, if_pos rfl, spec_wyAll.f, h1]
    rfl
end
section
variable {fl : Int → Int → Bool} {W H : Nat} (hB : Box fl W H) {t : St} (h0 : Gd fl t)
include hB h0
theorem nodes_reach : rOk ((nodes fl W t).map sNd) = true := by
 have hn := nodes_len hB h0
 have hd := found_done hB h0
 unfold rOk
 rw [CostF.nodes_ok hB h0, Bool.true_and, List.all_eq_true]
 intro k hk
 rw [List.mem_range, hn] at hk
 rw [Bool.or_eq_true, decide_eq_true_eq]
 by_cases h : k = 0
 ·exact .inl h
 ·right
  obtain ⟨x, hx⟩ : ∃ x, (found fl t)[k]? = some x := ⟨_, List.getElem?_eq_getElem hk⟩
  obtain ⟨p, d, y, h1, h2, h3, h4, _⟩ := hd.born k (by omega) x hx
  have hc : canF fl y.1 d = true ∧ moved y.1 d = x.1 := by
   unfold mvf at h4
   by_cases hc : canF fl y.1 d = true
   ·rw [if_pos hc] at h4
    injection h4 with h4
    exact ⟨hc, h4⟩
   ·rw [if_neg hc] at h4
    cases h4
  obtain ⟨p', y', g1, g2, g3, g4⟩ := goes hd h1 h3 hc.1
  have : p' = k := apart_at hd.apart g2 hx (by rw [g3, hc.2])
  subst this
  rw [List.any_eq_true]
  refine ⟨p, List.mem_range.2 h2, ?_⟩
  rw [List.any_eq_true]
  refine ⟨d, List.mem_range.2 h3, ?_⟩
  rw [decide_eq_true_eq, nx_eq hB h0 p d h3]
  exact nx_yes h1 hc.1 g1
theorem cell_eq2 (x y : Int) (j : Nat) : TS ((nodes fl W t).map sNd) x y j = PricesC.TL (test x y) (found fl t) j := by
 have hq := (nodes_q hB h0).states
 have := congrArg (fun l => l[j]?) hq
 simp only [List.getElem?_map] at this
 unfold TS PricesC.TL
 rw [List.getElem?_map]
 cases h1 : (nodes fl W t)[j]? <;> cases h2 : (found fl t)[j]? <;> rw [h1, h2] at this
 ·rfl
 ·simp at this
 ·simp at this
 ·next z u =>
  simp only [Option.map_some, Option.some.injEq] at this
  simp only [Option.map_some]
  unfold test
  rw [← this, Bool.eq_iff_iff]
  simp
end
theorem cheapestWay (s : ByteArray) (x y a0 a1 a2 a3 a4 a5 z v : Int) : ∃ k, laws_FnExactCheapestWay.f k s x y a0 a1 a2 a3 a4 a5 z v = some true := by
 refine ⟨3 * s.size + 1101, ?_⟩
 unfold laws_FnExactCheapestWay.f
 by_cases h : (s.size : Int) > 1048576
 ·rw [if_pos h]
 ·have hw := wyCell_at s ⟨x, y, ⟨a0, a1, a2, a3, a4, a5⟩⟩ z v (3 * s.size + 1101) (by omega)
  simp only at hw
  rw [if_neg h]
  simp only [laws_toState.f, Option.bind_some]
  have hs : spec_CheapestWay.f (3 * s.size + 1101) s x y a0 a1 a2 a3 a4 a5 z v = some (CheapI.cheapI s ⟨x, y, ⟨a0, a1, a2, a3, a4, a5⟩⟩ z v) := by
   unfold spec_CheapestWay.f CheapF.says CheapI.cheapI
   rw [hw, Option.bind_some]
   cases ha : cellOk s ⟨x, y, ⟨a0, a1, a2, a3, a4, a5⟩⟩ z v with
   | false =>
    rw [if_neg (show ¬ (false = true) by decide), if_neg (show ¬ (false = true) by decide)]
    simp only
    rw [if_neg (fun h_ => by cases h_.1)]
    unfold resS
    rw [if_neg (show ¬ (false = true) by decide)]
   | true =>
    have hca := ha
    unfold cellOk at hca
    rw [Bool.and_eq_true] at hca
    obtain ⟨hi, hg⟩ := ask_iff.1 hca.1
    rw [if_pos rfl, if_pos rfl]
    simp only
    rw [if_neg (fun h_ => by rw [nodes_reach (box hi) hg] at h_; cases h_.2)]
    unfold resS
    rw [if_pos rfl, Cheap.cheap_congr (fun a d hd => nx_eq (box hi) hg a d hd) (fun j => top_eq (box hi) hg j) (fun j => cell_eq2 (box hi) hg z v j)]
  have hi : impl_CheapestWay.f s x y a0 a1 a2 a3 a4 a5 z v = some (CheapI.cheapI s ⟨x, y, ⟨a0, a1, a2, a3, a4, a5⟩⟩ z v) := by
   unfold impl_CheapestWay.f
   rw [if_pos (show s.size ≤ 1048576 by omega)]
  rw [hs, hi]
  obtain ⟨res, hres⟩ : ∃ res, res = CheapI.cheapI s ⟨x, y, ⟨a0, a1, a2, a3, a4, a5⟩⟩ z v := ⟨_, rfl⟩
  rw [← hres]
  simp
end Go.Proofs.YtkoejpimalbhbaaDoor.PureCw
