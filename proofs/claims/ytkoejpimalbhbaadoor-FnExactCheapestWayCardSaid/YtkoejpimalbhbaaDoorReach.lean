/- Plain law: what a search tells of each state: from which it came, how far it is. No program in sight. -/
import Derived.Test.YtkoejpimalbhbaaDoorBfs
import Derived.Test.YtkoejpimalbhbaaDoorState
namespace Go.Proofs.YtkoejpimalbhbaaDoor.Reach
open Dice (Die roll)

section
variable {S : Type} (mv : S → Nat → Option S)
open Bfs

def frm (L : Nodes S) (x : S × List Nat) : Int := if x.2 = [] then -1 else ((L.findIdx fun y => decide (y.2 = x.2.dropLast) : Nat) : Int)
theorem findIdx_at {L : Nodes S} {k : Nat} {x : S × List Nat} (hr : L.Pairwise fun x y => lt x.2 y.2) (hx : L[k]? = some x) : (L.findIdx fun y => decide (y.2 = x.2)) = k := by
 obtain ⟨hk, he⟩ := List.getElem?_eq_some_iff.1 hx
 rw [List.findIdx_eq hk]
 refine ⟨by simp [he], fun j hj => ?_⟩
 have hl := rising_at hr (List.getElem?_eq_getElem (Nat.lt_trans hj hk)) hx hj
 rw [decide_eq_false_iff_not]
 intro e
 rw [e] at hl
 exact lt_irrefl _ hl
theorem frm_new {s0 : S} {L : Nodes S} {k i : Nat} (h : Inv mv s0 L k i) {s t : S} {w : List Nat} (hk : L[k]? = some (s, w)) : frm (L ++ [(t, w ++ [i])]) (t, w ++ [i]) = k := by
 have hlt : k < L.length := (List.getElem?_eq_some_iff.1 hk).1
 have h1 : (L.findIdx fun y => decide (y.2 = w)) = k := findIdx_at h.rising hk
 unfold frm
 rw [if_neg (by simp)]
 simp only [List.dropLast_concat]
 rw [List.findIdx_append, h1, if_pos hlt]
theorem frm_old {s0 : S} {L : Nodes S} {k i : Nat} (h : Inv mv s0 L k i) (n : S × List Nat) {x : S × List Nat} (hx : x ∈ L) : frm (L ++ [n]) x = frm L x := by
 unfold frm
 by_cases he : x.2 = []
 ·rw [if_pos he, if_pos he]
 ·rw [if_neg he, if_neg he]
  obtain ⟨j, hj⟩ := List.mem_iff_getElem?.1 hx
  have h0 : 0 < j := by
   rcases Nat.eq_zero_or_pos j with rfl | h0
   ·rw [h.root] at hj
    injection hj with hj
    exact absurd (by rw [← hj]) he
   ·exact h0
  obtain ⟨p, d, y, h1, _, _, _, _, h6⟩ := h.born j h0 x hj
  have h2 : (L.findIdx fun z => decide (z.2 = x.2.dropLast)) = p := by
   rw [h6, List.dropLast_concat]
   exact findIdx_at h.rising h1
  have hp := (List.getElem?_eq_some_iff.1 h1).1
  rw [List.findIdx_append, h2, if_pos hp]
theorem frms_new {s0 : S} {L : Nodes S} {k i : Nat} (h : Inv mv s0 L k i) {s t : S} {w : List Nat} (hk : L[k]? = some (s, w)) :
  (L ++ [(t, w ++ [i])]).map (frm (L ++ [(t, w ++ [i])])) = L.map (frm L) ++ [(k : Int)] := by
 rw [List.map_append, List.map_cons, List.map_nil, frm_new mv h hk]
 congr 1
 exact List.map_congr_left (fun x hx => frm_old mv h _ hx)
end
section
variable {S : Type} [DecidableEq S]
open Bfs
def place (L : Nodes S) (t : S) : Option Nat := L.findIdx? fun y => decide (y.1 = t)
theorem place_some {L : Nodes S} (ha : L.Pairwise fun x y => x.1 ≠ y.1) {j : Nat} {x : S × List Nat} (hx : L[j]? = some x) : place L x.1 = some j := by
 obtain ⟨hj, he⟩ := List.getElem?_eq_some_iff.1 hx
 unfold place
 rw [List.findIdx?_eq_some_iff_getElem]
 refine ⟨hj, by simp [he], fun i hi => ?_⟩
 have := List.pairwise_iff_getElem.1 ha i j (by omega) hj hi
 rw [he] at this
 simpa using this
theorem place_none {L : Nodes S} {t : S} : place L t = none ↔ ∀ x ∈ L, x.1 ≠ t := by
 unfold place
 rw [List.findIdx?_eq_none_iff]
 simp
theorem place_at {L : Nodes S} {t : S} {j : Nat} (h : place L t = some j) : ∃ w, L[j]? = some (t, w) := by
 unfold place at h
 rw [List.findIdx?_eq_some_iff_getElem] at h
 obtain ⟨hj, he, _⟩ := h
 refine ⟨L[j].2, ?_⟩
 rw [List.getElem?_eq_getElem hj]
 have : L[j].1 = t := by simpa using he
 rw [← this]
end
end Go.Proofs.YtkoejpimalbhbaaDoor.Reach
