/- The search on a board: which states are good, that they are few, that the reference's codes tell them apart. Conditions: none. -/
import Derived.Test.YtkoejpimalbhbaaDoorBaseR
import Derived.Test.YtkoejpimalbhbaaDoorWyPj
namespace Go.Proofs.YtkoejpimalbhbaaDoor.Search
open Go.RowKit Go.Proofs.YtkoejpimalbhbaaDoor.QBs Go.Proofs.YtkoejpimalbhbaaDoorW.PrintWords Go.Proofs.YtkoejpimalbhbaaDoorW.PrintLast Go.Proofs.YtkoejpimalbhbaaDoor.Board Go.Proofs.YtkoejpimalbhbaaDoor.IsDie Go.Proofs.YtkoejpimalbhbaaDoor.BaseR Go.Proofs.YtkoejpimalbhbaaDoor.ReachR Go.Proofs.YtkoejpimalbhbaaDoor.WyR
open Go.Proofs.YtkoejpimalbhbaaDoor.Reach (St frm)
open Go.Proofs.YtkoejpimalbhbaaDoor.Reached (mvf byt)
open Go.Proofs.YtkoejpimalbhbaaDoor.Dice (Die roll act)
set_option linter.unusedVariables false
set_option linter.unusedSimpArgs false

structure Box (fl : Int → Int → Bool) (W H : Nat) : Prop where
 inn : ∀ x y, fl x y = true → (0 ≤ x ∧ x < (W : Int)) ∧ (0 ≤ y ∧ y < (H : Int))
 w7 : W ≤ 7
 h7 : H ≤ 7
 c36 : W * H ≤ 36
theorem box {ok : UInt8 → Bool} {l : List UInt8} (h : IsB ok l) : Box (floorB l) (wide l) (high l) where
 inn := fun x y hf => by
  by_cases hb : hasB l x y = true
  ·obtain ⟨h1, h2⟩ := has_iff.1 hb
   exact ⟨h2, h1⟩
  ·unfold floorB cellAt at hf
   rw [if_neg hb] at hf
   simp at hf
 w7 := h.w7
 h7 := h.h7
 c36 := h.c36
def Gd (fl : Int → Int → Bool) (t : St) : Prop := fl t.x t.y = true ∧ good t.d.t t.d.n t.d.e t.d.s t.d.w t.d.b = true
instance (fl : Int → Int → Bool) (t : St) : Decidable (Gd fl t) := inferInstanceAs (Decidable (_ ∧ _))
theorem gd_iff {l : List UInt8} {t : St} : stateB l t.x t.y t.d.t t.d.n t.d.e t.d.s t.d.w t.d.b = true ↔ Gd (floorB l) t := by
 unfold stateB Gd
 rw [Bool.and_eq_true]
theorem good_roll (d : Die) (k : Nat) (h : good d.t d.n d.e d.s d.w d.b = true) : good (roll d k).t (roll d k).n (roll d k).e (roll d k).s (roll d k).w (roll d k).b = true := by
 simp only [good, List.all_cons, List.all_nil, Bool.and_true, Bool.and_eq_true] at h ⊢
 obtain ⟨h1, h2, h3, h4, h5, h6⟩ := h
 rcases k with _ | _ | _ | k
 ·exact ⟨h4, h1, h3, h6, h5, h2⟩
 ·exact ⟨h5, h2, h1, h4, h6, h3⟩
 ·exact ⟨h2, h6, h3, h1, h5, h4⟩
 ·exact ⟨h3, h2, h6, h4, h1, h5⟩
def zst : St := ⟨0, 0, ⟨0, 0, 0, 0, 0, 0⟩⟩
def canF (fl : Int → Int → Bool) (t : St) (k : Nat) : Bool := fl (moved t k).x (moved t k).y
def moS (fl : Int → Int → Bool) (t : St) (i : Nat) : St := if canF fl t i = true then moved t i else zst
theorem mvf_moS (fl : Int → Int → Bool) : mvf (moS fl) (canF fl) = mvf moved (canF fl) := by
 funext t i
 unfold mvf moS
 by_cases h : canF fl t i = true
 ·rw [if_pos h, if_pos h, if_pos h]
 ·rw [if_neg h, if_neg h]
theorem gd_moved {fl : Int → Int → Bool} {t : St} {i : Nat} (h : Gd fl t) (hc : canF fl t i = true) : Gd fl (moved t i) := ⟨hc, good_roll t.d i h.2⟩
theorem gd_moS {fl : Int → Int → Bool} {t : St} {i : Nat} (h : Gd fl t) (hc : canF fl t i = true) : Gd fl (moS fl t i) := by
 unfold moS
 rw [if_pos hc]
 exact gd_moved h hc
def spots (W H : Nat) (d : Die) : List St := (List.range W).flatMap fun (x : Nat) => (List.range H).flatMap fun (y : Nat) => Go.Proofs.YtkoejpimalbhbaaDoor.Dice.table.map fun q => (⟨(x : Int), (y : Int), act d q.1⟩ : St)
theorem flat_len {α β : Type} (f : α → List β) (n : Nat) (hf : ∀ a, (f a).length = n) : ∀ l : List α, (l.flatMap f).length = l.length * n
 | [] => by simp
 | a :: l => by
  rw [List.flatMap_cons, List.length_append, hf, flat_len f n hf l, List.length_cons, Nat.succ_mul]
  omega
theorem spots_length (W H : Nat) (d : Die) : (spots W H d).length = W * (H * 24) := by
 unfold spots
 rw [flat_len _ (H * 24) (fun x => by rw [flat_len _ 24 (fun y => by rw [List.length_map, Go.Proofs.YtkoejpimalbhbaaDoor.Dice.table_length]), List.length_range]), List.length_range]
theorem run_die (fl : Int → Int → Bool) : ∀ (w : List Nat) (s t : St), Gd fl s → Bfs.run (mvf moved (canF fl)) s w = some t → t.d = Go.Proofs.YtkoejpimalbhbaaDoor.Dice.rolled s.d w ∧ Gd fl t
 | [], s, t, hs, h => by
  simp only [Bfs.run, Option.some.injEq] at h
  subst h
  exact ⟨rfl, hs⟩
 | k :: w, s, t, hs, h => by
  simp only [Bfs.run, mvf] at h
  by_cases hc : canF fl s k = true
  ·rw [if_pos hc, Option.bind_some] at h
   exact run_die fl w (moved s k) t (gd_moved hs hc) h
  ·rw [if_neg hc] at h
   cases h
section
variable {fl : Int → Int → Bool} {W H : Nat} (hB : Box fl W H)
include hB
theorem mem_spots {s0 : St} (h0 : Gd fl s0) (w : List Nat) (s : St) (hd : ∀ d ∈ w, d < 4) (h : Bfs.run (mvf moved (canF fl)) s0 w = some s) : s ∈ spots W H s0.d := by
 obtain ⟨h1, h2⟩ := run_die fl w s0 s h0 h
 obtain ⟨⟨x0, x1⟩, y0, y1⟩ := hB.inn _ _ h2.1
 have h3 := Go.Proofs.YtkoejpimalbhbaaDoor.Dice.reached s0.d w s.d hd (by rw [Go.Proofs.YtkoejpimalbhbaaDoor.Dice.run_mv, h1])
 obtain ⟨q, hq, he⟩ := List.mem_map.1 h3
 unfold spots
 refine List.mem_flatMap.2 ⟨s.x.toNat, List.mem_range.2 (by omega), List.mem_flatMap.2 ⟨s.y.toNat, List.mem_range.2 (by omega), List.mem_map.2 ⟨q, hq, ?_⟩⟩⟩
 rw [he, Int.toNat_of_nonneg x0, Int.toNat_of_nonneg y0]
theorem spots_small (d : Die) : (spots W H d).length ≤ 864 := by
 rw [spots_length, ← Nat.mul_assoc]
 have := hB.c36
 omega
theorem small {s0 : St} (h0 : Gd fl s0) : ∀ L k i, Bfs.Inv (mvf moved (canF fl)) s0 L k i → L.length ≤ 1000 := fun L k i hi => by
 have := Bfs.inv_length _ hi (spots W H s0.d) (fun w s hd hr => mem_spots hB h0 w s hd hr)
 have := spots_small hB s0.d
 omega
end
def found (fl : Int → Int → Bool) (t : St) : Bfs.Nodes St := Bfs.search (mvf moved (canF fl)) 1001 t
section
variable {fl : Int → Int → Bool} {W H : Nat} (hB : Box fl W H)
include hB
theorem found_done {t : St} (h0 : Gd fl t) : Bfs.Done (mvf moved (canF fl)) t (found fl t) :=
 Bfs.search_done _ t (spots W H t.d) (fun w s hd hr => mem_spots hB h0 w s hd hr) 1001 (by have := spots_small hB t.d; omega)
theorem found_length {t : St} (h0 : Gd fl t) : (found fl t).length ≤ 864 := by
 have hd := found_done hB h0
 have hp : ((found fl t).map Prod.fst).Pairwise (fun x y => x ≠ y) := List.pairwise_map.2 hd.apart
 have h1 := Bfs.length_le_of_apart ((found fl t).map Prod.fst) (spots W H t.d) hp (fun s hs => by
  obtain ⟨⟨a, w⟩, hm, rfl⟩ := List.mem_map.1 hs
  exact mem_spots hB h0 w _ (hd.small _ _ hm) (hd.leads _ _ hm))
 have := spots_small hB t.d
 rw [List.length_map] at h1
 omega
theorem found_gd {t : St} (h0 : Gd fl t) {x : St × List Nat} (hx : x ∈ found fl t) : Gd fl x.1 :=
 (run_die fl x.2 t x.1 h0 ((found_done hB h0).leads x.1 x.2 hx)).2
theorem found_pos {t : St} (h0 : Gd fl t) : 0 < (found fl t).length := (List.getElem?_eq_some_iff.1 (found_done hB h0).root).1
end
def codeV (W : Int) (t : St) : Int := 10 * (10 * (10 * (10 * (10 * (10 * (t.y * W + t.x) + t.d.t) + t.d.n) + t.d.e) + t.d.s) + t.d.w) + t.d.b
theorem dig {A B a b : Int} (h : 10 * A + a = 10 * B + b) (ha : 0 ≤ a ∧ a ≤ 9) (hb : 0 ≤ b ∧ b ≤ 9) : A = B ∧ a = b := by omega
theorem place_inj {W : Int} (hW : W ≤ 7) {x y x' y' : Int} (hx : 0 ≤ x ∧ x < W) (hx' : 0 ≤ x' ∧ x' < W) (h : y * W + x = y' * W + x') : x = x' ∧ y = y' := by
 have : W = 1 ∨ W = 2 ∨ W = 3 ∨ W = 4 ∨ W = 5 ∨ W = 6 ∨ W = 7 := by omega
 rcases this with rfl | rfl | rfl | rfl | rfl | rfl | rfl
 all_goals omega
theorem good_iff {d : Die} (h : good d.t d.n d.e d.s d.w d.b = true) : (0 ≤ d.t ∧ d.t ≤ 9) ∧ (0 ≤ d.n ∧ d.n ≤ 9) ∧ (0 ≤ d.e ∧ d.e ≤ 9) ∧ (0 ≤ d.s ∧ d.s ≤ 9) ∧ (0 ≤ d.w ∧ d.w ≤ 9) ∧ (0 ≤ d.b ∧ d.b ≤ 9) := by
 simp only [good, List.all_cons, List.all_nil, Bool.and_true, Bool.and_eq_true, inB_iff] at h
 exact h
section
variable {fl : Int → Int → Bool} {W H : Nat} (hB : Box fl W H)
include hB
theorem code_inj (a b : St) (ha : Gd fl a) (hb : Gd fl b) (he : codeV W a = codeV W b) : a = b := by
 obtain ⟨⟨x0, x1⟩, y0, y1⟩ := hB.inn _ _ ha.1
 obtain ⟨⟨u0, u1⟩, v0, v1⟩ := hB.inn _ _ hb.1
 have w7 := hB.w7
 obtain ⟨a1, a2, a3, a4, a5, a6⟩ := good_iff ha.2
 obtain ⟨b1, b2, b3, b4, b5, b6⟩ := good_iff hb.2
 unfold codeV at he
 obtain ⟨he, e6⟩ := dig he a6 b6
 obtain ⟨he, e5⟩ := dig he a5 b5
 obtain ⟨he, e4⟩ := dig he a4 b4
 obtain ⟨he, e3⟩ := dig he a3 b3
 obtain ⟨he, e2⟩ := dig he a2 b2
 obtain ⟨he, e1⟩ := dig he a1 b1
 obtain ⟨ex, ey⟩ := place_inj (by omega) ⟨x0, x1⟩ ⟨u0, u1⟩ he
 obtain ⟨xa, ya, ⟨p1, p2, p3, p4, p5, p6⟩⟩ := a
 obtain ⟨xb, yb, ⟨q1, q2, q3, q4, q5, q6⟩⟩ := b
 simp only at ex ey e1 e2 e3 e4 e5 e6
 subst ex ey e1 e2 e3 e4 e5 e6
 rfl
theorem code_small {t : St} (ht : Gd fl t) : 0 ≤ t.y * (W : Int) + t.x ∧ t.y * (W : Int) + t.x ≤ 100 ∧ 0 ≤ t.y * (W : Int) ∧ t.y * (W : Int) ≤ 49 := by
 obtain ⟨⟨x0, x1⟩, y0, y1⟩ := hB.inn _ _ ht.1
 have w7 := hB.w7
 have h7 := hB.h7
 have hm : t.y * (W : Int) ≤ 7 * 7 := Int.mul_le_mul (by omega) (by omega) (by omega) (by omega)
 have hp : 0 ≤ t.y * (W : Int) := Int.mul_nonneg y0 (by omega)
 omega
end
def nodes (fl : Int → Int → Bool) (W : Int) (t : St) : List Nd := fromN (moS fl) (canF fl) (codeV W) 1001 [nd0 t] 0
section
variable {fl : Int → Int → Bool} {W H : Nat} (hB : Box fl W H)
include hB
theorem nodes_q {t : St} (h0 : Gd fl t) : WyPj.Pj (nodes fl W t) (found fl t) := by
 have := WyPj.search_q (mo := moS fl) (can := canF fl) (code := codeV W) (Gd := Gd fl) (s0 := t) (code_inj hB) h0 (fun _ _ hg _ hc => gd_moS hg hc) (by rw [mvf_moS]; exact small hB h0)
 rw [mvf_moS] at this
 exact this
theorem nodes_ivs {t : St} (h0 : Gd fl t) : ∃ Iv, Ivs (moS fl) (canF fl) (codeV W) (Gd fl) t Iv :=
 ⟨_, WyPj.ivs (code_inj hB) h0 (fun _ _ hg _ hc => gd_moS hg hc) (by rw [mvf_moS]; exact small hB h0)⟩
end
def flR (gw gh : Int) (cs : List Int) (x y : Int) : Bool := (spec_boFloor.f gw gh cs x y).getD false
def bdB (gw gh : Int) (cs : List Int) : Prop := (1 ≤ gw ∧ gw ≤ 7) ∧ (1 ≤ gh ∧ gh ≤ 7) ∧ gw * gh ≤ 36 ∧ (cs.length : Int) = gw * gh
instance (gw gh : Int) (cs : List Int) : Decidable (bdB gw gh cs) := inferInstanceAs (Decidable (_ ∧ _))
theorem cellR (gw gh : Int) (cs : List Int) (h : bdB gw gh cs) (x y : Int) : spec_boCell.f gw gh cs x y = some ((decide (0 ≤ x) && decide (x < gw)) && (decide (0 ≤ y) && decide (y < gh))) := by
 obtain ⟨⟨w1, w7⟩, ⟨h1, h7⟩, _, _⟩ := h
 have e1 : wrap64 (gh - 1) = gh - 1 := by unfold wrap64; omega
 have e2 : wrap64 (gw - 1) = gw - 1 := by unfold wrap64; omega
 have d1 : decide (y ≤ gh - 1) = decide (y < gh) := decide_eq_decide.2 (by omega)
 have d2 : decide (x ≤ gw - 1) = decide (x < gw) := decide_eq_decide.2 (by omega)
 unfold spec_boCell.f
 rw [l1In_any, l1In_any, Option.bind_some, Option.bind_some, e1, e2, d1, d2]
 cases (decide (0 ≤ x) && decide (x < gw)) <;> simp
theorem floorR (gw gh : Int) (cs : List Int) (h : bdB gw gh cs) (x y : Int) : spec_boFloor.f gw gh cs x y = some (flR gw gh cs x y) ∧ (flR gw gh cs x y = true → (0 ≤ x ∧ x < gw) ∧ (0 ≤ y ∧ y < gh)) := by
 have hc := cellR gw gh cs h x y
 obtain ⟨⟨w1, w7⟩, ⟨h1, h7⟩, c36, hl⟩ := h
 unfold flR spec_boFloor.f
 rw [hc, Option.bind_some]
 by_cases hb : ((decide (0 ≤ x) && decide (x < gw)) && (decide (0 ≤ y) && decide (y < gh))) = true
 ·have hb' := hb
  simp only [Bool.and_eq_true, decide_eq_true_eq] at hb'
  obtain ⟨⟨x0, x1⟩, y0, y1⟩ := hb'
  have hp : 0 ≤ y * gw := Int.mul_nonneg y0 (by omega)
  have hm : y * gw ≤ 7 * 7 := Int.mul_le_mul (by omega) (by omega) (by omega) (by omega)
  have hs : (y + 1) * gw ≤ gh * gw := Int.mul_le_mul_of_nonneg_right (by omega) (by omega)
  rw [Int.add_mul, Int.one_mul, Int.mul_comm gh] at hs
  have e : wrap64 (wrap64 (y * gw) + x) = y * gw + x := by unfold wrap64; omega
  rw [if_pos hb, e, if_pos (by omega), if_pos (by omega)]
  exact ⟨rfl, fun _ => ⟨⟨x0, x1⟩, y0, y1⟩⟩
 ·rw [if_neg hb]
  exact ⟨rfl, fun h => by simp at h⟩
theorem boxR {gw gh : Int} {cs : List Int} (h : bdB gw gh cs) : Box (flR gw gh cs) gw.toNat gh.toNat := by
 have hf := fun x y => (floorR gw gh cs h x y).2
 obtain ⟨⟨w1, w7⟩, ⟨h1, h7⟩, c36, hl⟩ := h
 obtain ⟨W, rfl⟩ : ∃ W : Nat, gw = W := ⟨gw.toNat, by omega⟩
 obtain ⟨H, rfl⟩ : ∃ H : Nat, gh = H := ⟨gh.toNat, by omega⟩
 refine ⟨fun x y hxy => ?_, by omega, by omega, ?_⟩
 ·have := hf x y hxy
  simp only [Int.toNat_natCast]
  exact this
 ·simp only [Int.toNat_natCast]
  rw [← Int.natCast_mul] at c36
  omega
theorem bd_of {l : List UInt8} (h : IsB okB l) : bdB (wide l) (high l) (ints (cells l)) := by
 have h1 := h.h1
 have h7 := h.h7
 have w1 := h.w1
 have w7 := h.w7
 have hc := h.c36
 refine ⟨by omega, by omega, ?_, ?_⟩
 ·rw [← Int.natCast_mul]
  omega
 ·rw [List.length_map, h.cells_length, Int.natCast_mul]
theorem fl_of {l : List UInt8} (h : IsB okB l) : flR (wide l) (high l) (ints (cells l)) = floorB l := by
 funext x y
 have h1 := (floorR _ _ _ (bd_of h) x y).1
 rw [floor_eq l h] at h1
 exact (Option.some.inj h1).symm
def wyF (gw gh : Int) (cs : List Int) (t : St) : Option (List S44) :=
 if bdB gw gh cs ∧ Gd (flR gw gh cs) t then some ((nodes (flR gw gh cs) gw t).map sNd) else none
theorem wyF_eq {l : List UInt8} (h : IsB okB l) {t : St} (ht : Gd (floorB l) t) : wyF (wide l) (high l) (ints (cells l)) t = some ((nodes (floorB l) (wide l) t).map sNd) := by
 unfold wyF
 rw [fl_of h, if_pos ⟨bd_of h, ht⟩]
end Go.Proofs.YtkoejpimalbhbaaDoor.Search
