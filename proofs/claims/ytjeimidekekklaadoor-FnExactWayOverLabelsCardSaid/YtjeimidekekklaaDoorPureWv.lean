/- Plain law: the word over labels to the first state at a cell is the reference's. Conditions: none. -/
import Derived.Test.YtjeimidekekklaaDoorQWvx
import Derived.Test.YtjeimidekekklaaDoorPrAll
import Derived.Test.YtjeimidekekklaaDoorFirstO
namespace Go.Proofs.YtjeimidekekklaaDoor.PureWv
open Go.RowKit Go.Proofs.YtjeimidekekklaaDoor.QWv Go.Proofs.YtjeimidekekklaaDoor.Board Go.Proofs.YtjeimidekekklaaDoor.BaseM Go.Proofs.YtjeimidekekklaaDoor.SearchG Go.Proofs.YtjeimidekekklaaDoor.CountL Go.Proofs.YtjeimidekekklaaDoor.FirstO Go.Proofs.YtjeimidekekklaaDoor.ReachR
open Go.Proofs.YtjeimidekekklaaDoor.PrAll (al wo textOf)
open Go.Proofs.YtjeimidekekklaaDoorW.PrintWords Go.Proofs.YtjeimidekekklaaDoorW.PrintLast
open Go.Proofs.YtjeimidekekklaaDoor.Reach (St)
open Go.Proofs.YtjeimidekekklaaDoor.ByteRow (unlab)
set_option linter.unusedVariables false
set_option linter.unusedSimpArgs false

theorem prAsked_at (s : ByteArray) (x y a0 a1 a2 a3 a4 a5 : Int) (k : Nat) (hk : 3 * s.size + 10 < k) : ∃ r, spec_prAsked.f k s x y a0 a1 a2 a3 a4 a5 = some r ∧ r.2.2.2.2 = askB s x y a0 a1 a2 a3 a4 a5 ∧
  (askB s x y a0 a1 a2 a3 a4 a5 = true → r = ((wide s.data.toList : Int), (high s.data.toList : Int), ints (cells (s.data.toList.map unlab)), ints (cells s.data.toList), true)) := by
 obtain ⟨r, h1, h2, h3⟩ := prRead_at s k hk
 unfold spec_prAsked.f askB
 simp only [spec_prRead.f]
 rw [h1, Option.bind_some]
 cases hb : isB okL s.data.toList with
 | false =>
  rw [hb] at h2
  rw [if_neg (by rw [h2]; decide)]
  exact ⟨_, rfl, rfl, fun h => by cases h⟩
 | true =>
  rw [hb] at h2
  obtain rfl := h3 hb
  have hs := boState_eq _ (plainB (isB_iff.1 hb)) x y a0 a1 a2 a3 a4 a5 k (by omega)
  rw [wide_map, high_map] at hs
  rw [if_pos rfl]
  simp only [spec_boState.f]
  rw [hs, Option.bind_some, Bool.true_and]
  exact ⟨_, rfl, rfl, fun h => by rw [h]⟩
section
variable {mv : St → Nat → Option St} {s0 : St} {L : Bfs.Nodes St} (hl : L.length ≤ 1000) (x y : Int)
include hl
theorem step_l0 (i k : Nat) (u : St) (wd : List Nat) (hx : L[i]? = some (u, wd)) :
  spec_WayOverLabels.l0 (k + 1) x y (wo L) (al L) ((al L).length : Int) (i : Int) = if test x y u = true ∧ wd.length ≤ 60 then some (textOf wd, true) else spec_WayOverLabels.l0 k x y (wo L) (al L) ((al L).length : Int) ((i + 1 : Nat) : Int) := by
 have hi := (List.getElem?_eq_some_iff.1 hx).1
 have hal : ((al L).length : Int) = (L.length : Int) := by rw [List.length_map]
 have hwo : ((wo L).length : Int) = (L.length : Int) := by rw [List.length_map]
 have hrd : QBs.rd_T30 (al L) (i : Int) = sSt u := by
  simp only [QBs.rd_T30, Int.toNat_natCast, List.getD_eq_getElem?_getD, al, List.getElem?_map, hx, Option.map_some, Option.getD_some]
 have hrw : rdOf ByteArray.empty (wo L) (i : Int) = textOf wd := by
  simp only [rdOf, Int.toNat_natCast, List.getD_eq_getElem?_getD, wo, List.getElem?_map, hx, Option.map_some, Option.getD_some]
 have hx0 : (sSt u).f0 = u.x := rfl
 have hy0 : (sSt u).f1 = u.y := rfl
 have hsz : ((textOf wd).size : Int) ≤ 60 ↔ wd.length ≤ 60 := by rw [PrAll.text_size]; omega
 rw [spec_WayOverLabels.l0, if_pos (by omega), if_pos (by omega), if_pos (by omega), hrd, hrw, hx0, hy0, BaseM.succ_wrap (by omega)]
 unfold test
 by_cases h1 : u.x = x
 ·rw [if_pos h1]
  by_cases h2 : u.y = y
  ·rw [if_pos h2, if_pos (by omega)]
   by_cases h3 : wd.length ≤ 60
   ·rw [if_pos (hsz.2 h3), if_pos ⟨by simp [h1, h2], h3⟩]
   ·rw [if_neg (fun h => h3 (hsz.1 h)), if_neg (fun h => h3 h.2)]
  ·rw [if_neg h2, if_neg (fun h => by have := h.1; simp [h2] at this)]
 ·rw [if_neg h1, if_neg (fun h => by have := h.1; simp [h1] at this)]
omit hl in
theorem end_l0 (k : Nat) (i : Nat) (hi : L.length ≤ i) : spec_WayOverLabels.l0 (k + 1) x y (wo L) (al L) ((al L).length : Int) (i : Int) = some (⟨#[]⟩, false) := by
 have hal : ((al L).length : Int) = (L.length : Int) := by rw [List.length_map]
 rw [spec_WayOverLabels.l0, if_neg (by omega)]
theorem late_l0 (i0 : Nat) (hlate : ∀ j v, i0 ≤ j → L[j]? = some v → 60 < v.2.length) : ∀ (d i k : Nat), i0 ≤ i → i + d = L.length → d < k → spec_WayOverLabels.l0 k x y (wo L) (al L) ((al L).length : Int) (i : Int) = some (⟨#[]⟩, false) := by
 intro d
 induction d with
 | zero =>
  intro i k hi0 hi hk
  obtain ⟨k, rfl⟩ : ∃ m, k = m + 1 := ⟨k - 1, by omega⟩
  exact end_l0 x y k i (by omega)
 | succ d ih =>
  intro i k hi0 hi hk
  obtain ⟨k, rfl⟩ : ∃ m, k = m + 1 := ⟨k - 1, by omega⟩
  have hlt : i < L.length := by omega
  have hx : L[i]? = some (L[i].1, L[i].2) := List.getElem?_eq_getElem hlt
  have h60 := hlate i _ hi0 hx
  rw [step_l0 hl x y i k _ _ hx, if_neg (fun h => by have := h.2; simp only at h60; omega)]
  exact ih (i + 1) k (by omega) (by omega) (by omega)
theorem first_l0 (hd : Bfs.Done mv s0 L) : ∀ (d i k : Nat), i + d = L.length → d < k → spec_WayOverLabels.l0 k x y (wo L) (al L) ((al L).length : Int) (i : Int) =
  some (toS L (firstI (test x y) i ((L.map (·.1)).drop i)), toB L (firstI (test x y) i ((L.map (·.1)).drop i))) := by
 intro d
 induction d with
 | zero =>
  intro i k hi hk
  obtain ⟨k, rfl⟩ : ∃ m, k = m + 1 := ⟨k - 1, by omega⟩
  rw [end_l0 x y k i (by omega), List.drop_eq_nil_of_le (by rw [List.length_map]; omega), firstI]
  rfl
 | succ d ih =>
  intro i k hi hk
  obtain ⟨k, rfl⟩ : ∃ m, k = m + 1 := ⟨k - 1, by omega⟩
  have hlt : i < L.length := by omega
  obtain ⟨⟨u, wd⟩, hx⟩ : ∃ v, L[i]? = some v := ⟨_, List.getElem?_eq_getElem hlt⟩
  have hlm : i < (L.map (·.1)).length := by rw [List.length_map]; exact hlt
  have hu : (L.map (·.1))[i] = u := by
   rw [List.getElem_map]
   have := (List.getElem?_eq_some_iff.1 hx).2
   rw [this]
  rw [step_l0 hl x y i k u wd hx]
  by_cases hT : test x y u = true
  ·rw [first_hit (P := test x y) hlm (by rw [hu]; exact hT)]
   have hwi : wordI L (i : Int) = wd := by
    unfold wordI
    rw [Int.toNat_natCast, List.getD_eq_getElem?_getD, hx]
    rfl
   unfold toS toB
   rw [hwi, if_pos (show (0 : Int) ≤ (i : Int) by omega), decide_eq_true (show (0 : Int) ≤ (i : Int) by omega), Bool.true_and]
   unfold WordR.wordS
   by_cases h60 : wd.length ≤ 60
   ·rw [if_pos ⟨hT, h60⟩, if_pos h60, decide_eq_true h60]
    rfl
   ·rw [if_neg (fun h => h60 h.2), if_neg h60, decide_eq_false h60]
    exact late_l0 hl x y i (fun j v hj hv => by have := Reach.far_mono hd.rising hx hv hj; simp only at this; omega) d (i + 1) k (by omega) (by omega) (by omega)
  ·rw [if_neg (fun h => hT h.1), first_drop (P := test x y) hlm (by rw [hu]; simpa using hT)]
   exact ih (i + 1) k (by omega) (by omega)
end
theorem wayOver (s : ByteArray) (x y a0 a1 a2 a3 a4 a5 z v : Int) : ∃ k, laws_FnExactWayOverLabels.f k s x y a0 a1 a2 a3 a4 a5 z v = some true := by
 refine ⟨3 * s.size + 16001, ?_⟩
 unfold laws_FnExactWayOverLabels.f
 by_cases h : (s.size : Int) > 1048576
 ·rw [if_pos h]
 ·obtain ⟨r, q1, q2, q3⟩ := prAsked_at s x y a0 a1 a2 a3 a4 a5 (3 * s.size + 16001) (by omega)
  rw [if_neg h, laws_toState.f]
  simp only [Option.bind_some]
  rw [spec_WayOverLabels.f, impl_WayOverLabels.f, q1, if_pos (show s.size ≤ 1048576 by omega)]
  simp only [Option.bind_some]
  have hal : askL s ⟨x, y, ⟨a0, a1, a2, a3, a4, a5⟩⟩ = askB s x y a0 a1 a2 a3 a4 a5 := rfl
  unfold wayS wayB okF
  rw [hal]
  have hj : ∀ c, spec_WayOverLabels.j0 (3 * s.size + 16000 + 1) z v c true x y a0 a1 a2 a3 a4 a5 r.1 r.2.1 r.2.2.1 = some (⟨#[]⟩, false) := fun c => by
   rw [spec_WayOverLabels.j0, if_pos rfl]
  cases ha : askB s x y a0 a1 a2 a3 a4 a5 with
  | false =>
   rw [ha] at q2
   rw [if_neg (by rw [q2]; decide), hj]
   simp
  | true =>
   obtain rfl := q3 ha
   obtain ⟨hi, hh, _, _⟩ := ask_parts ha
   have hce := cell_eq _ (plainB hi) (ints (cells (s.data.toList.map unlab))) z v
   rw [wide_map, high_map, has_map] at hce
   rw [if_pos rfl]
   simp only [spec_boCell.f, Bool.true_and] at hj ⊢
   rw [hce, Option.bind_some]
   cases hq : hasB s.data.toList z v with
   | false =>
    rw [if_neg (by decide), hj]
    simp
   | true =>
    rw [if_pos rfl]
    simp only [spec_prMatch.f]
    rw [prMatch_eq _ hi _ _ _ _ _ _ _ _ _ hh, Option.bind_some]
    cases hm : matchB s.data.toList x y a0 with
    | false =>
     have hmb : mB s.data.toList ⟨x, y, ⟨a0, a1, a2, a3, a4, a5⟩⟩ = false := hm
     rw [hmb, Bool.not_false, hj]
     simp
    | true =>
     have hmb : mB s.data.toList ⟨x, y, ⟨a0, a1, a2, a3, a4, a5⟩⟩ = true := hm
     obtain ⟨_, hgd⟩ := ask_gd (t := ⟨x, y, ⟨a0, a1, a2, a3, a4, a5⟩⟩) ha hmb
     have hp := PrAll.prAll_eq hi hgd (3 * s.size + 16000) (by omega)
     have hd := found_done (rules hi) hgd
     have hlen := found_length (rules hi) hgd
     have hf := first_l0 (Nat.le_trans hlen (by decide)) z v hd _ 0 (3 * s.size + 16000) (Nat.zero_add _) (by omega)
     simp only at hp
     rw [List.drop_zero] at hf
     rw [hmb, Bool.not_true, show 3 * s.size + 16001 = (3 * s.size + 16000) + 1 from rfl, spec_WayOverLabels.j0, if_neg (by decide)]
     simp only [spec_prAll.f]
     rw [hp, Option.bind_some]
     simp only
     rw [show (0 : Int) = ((0 : Nat) : Int) from rfl, hf]
     unfold atF
     simp
end Go.Proofs.YtjeimidekekklaaDoor.PureWv
