/- The search over labels: which states are good, that they are few, that the reference's codes tell them apart. Conditions: none. -/
import Derived.Test.YtjeimidekekklaaDoorBaseM
import Derived.Test.YtjeimidekekklaaDoorReachedO
import Derived.Test.YtjeimidekekklaaDoorOver
namespace Go.Proofs.YtjeimidekekklaaDoor.SearchG
open Go.RowKit Go.Proofs.YtjeimidekekklaaDoorW.PrintWords Go.Proofs.YtjeimidekekklaaDoorW.PrintLast Go.Proofs.YtjeimidekekklaaDoor.Board Go.Proofs.YtjeimidekekklaaDoor.IsDie Go.Proofs.YtjeimidekekklaaDoor.BaseM Go.Proofs.YtjeimidekekklaaDoor.ReachR
open Go.Proofs.YtjeimidekekklaaDoor.Reach (St frm)
open Go.Proofs.YtjeimidekekklaaDoor.Reached (mvf byt)
open Go.Proofs.YtjeimidekekklaaDoor.Dice (Die roll act)
open Go.Proofs.YtjeimidekekklaaDoor.ByteRow (unlab)
set_option linter.unusedVariables false
set_option linter.unusedSimpArgs false

theorem good_roll (d : Die) (k : Nat) (h : good d.t d.n d.e d.s d.w d.b = true) : good (roll d k).t (roll d k).n (roll d k).e (roll d k).s (roll d k).w (roll d k).b = true := by
 simp only [good, List.all_cons, List.all_nil, Bool.and_true, Bool.and_eq_true] at h ⊢
 obtain ⟨h1, h2, h3, h4, h5, h6⟩ := h
 rcases k with _ | _ | _ | k
 ·exact ⟨h4, h1, h3, h6, h5, h2⟩
 ·exact ⟨h5, h2, h1, h4, h6, h3⟩
 ·exact ⟨h2, h6, h3, h1, h5, h4⟩
 ·exact ⟨h3, h2, h6, h4, h1, h5⟩
structure Rules (can : St → Nat → Bool) (Gd : St → Prop) (W H : Nat) : Prop where
 go : ∀ t i, Gd t → can t i = true → Gd (moved t i)
 inn : ∀ t, Gd t → (0 ≤ t.x ∧ t.x < (W : Int)) ∧ (0 ≤ t.y ∧ t.y < (H : Int))
 dig : ∀ t, Gd t → good t.d.t t.d.n t.d.e t.d.s t.d.w t.d.b = true
 w7 : W ≤ 7
 h7 : H ≤ 7
 c36 : W * H ≤ 36
def spots (W H : Nat) (d : Die) : List St := (List.range W).flatMap fun (x : Nat) => (List.range H).flatMap fun (y : Nat) => Dice.table.map fun q => (⟨(x : Int), (y : Int), act d q.1⟩ : St)
theorem flat_len {α β : Type} (f : α → List β) (n : Nat) (hf : ∀ a, (f a).length = n) : ∀ l : List α, (l.flatMap f).length = l.length * n
 | [] => by simp
 | a :: l => by
  rw [List.flatMap_cons, List.length_append, hf, flat_len f n hf l, List.length_cons, Nat.succ_mul]
  omega
theorem spots_length (W H : Nat) (d : Die) : (spots W H d).length = W * (H * 24) := by
 unfold spots
 rw [flat_len _ (H * 24) (fun x => by rw [flat_len _ 24 (fun y => by rw [List.length_map, Dice.table_length]), List.length_range]), List.length_range]
def found (can : St → Nat → Bool) (t : St) : Bfs.Nodes St := Bfs.search (mvf moved can) 1001 t
section
variable {can : St → Nat → Bool} {Gd : St → Prop} {W H : Nat} (hB : Rules can Gd W H)
include hB
theorem run_die : ∀ (w : List Nat) (s t : St), Gd s → Bfs.run (mvf moved can) s w = some t → t.d = Dice.rolled s.d w ∧ Gd t
 | [], s, t, hs, h => by
  simp only [Bfs.run, Option.some.injEq] at h
  subst h
  exact ⟨rfl, hs⟩
 | k :: w, s, t, hs, h => by
  simp only [Bfs.run, mvf] at h
  by_cases hc : can s k = true
  ·rw [if_pos hc, Option.bind_some] at h
   exact run_die w (moved s k) t (hB.go _ _ hs hc) h
  ·rw [if_neg hc] at h
   cases h
theorem mem_spots {s0 : St} (h0 : Gd s0) (w : List Nat) (s : St) (hd : ∀ d ∈ w, d < 4) (h : Bfs.run (mvf moved can) s0 w = some s) : s ∈ spots W H s0.d := by
 obtain ⟨h1, h2⟩ := run_die hB w s0 s h0 h
 obtain ⟨⟨x0, x1⟩, y0, y1⟩ := hB.inn _ h2
 have h3 := Dice.reached s0.d w s.d hd (by rw [Dice.run_mv, h1])
 obtain ⟨q, hq, he⟩ := List.mem_map.1 h3
 unfold spots
 refine List.mem_flatMap.2 ⟨s.x.toNat, List.mem_range.2 (by omega), List.mem_flatMap.2 ⟨s.y.toNat, List.mem_range.2 (by omega), List.mem_map.2 ⟨q, hq, ?_⟩⟩⟩
 rw [he, Int.toNat_of_nonneg x0, Int.toNat_of_nonneg y0]
theorem spots_small (d : Die) : (spots W H d).length ≤ 864 := by
 rw [spots_length, ← Nat.mul_assoc]
 have := hB.c36
 omega
theorem small {s0 : St} (h0 : Gd s0) : ∀ L k i, Bfs.Inv (mvf moved can) s0 L k i → L.length ≤ 864 := fun L k i hi => by
 have := Bfs.inv_length _ hi (spots W H s0.d) (fun w s hd hr => mem_spots hB h0 w s hd hr)
 have := spots_small hB s0.d
 omega
theorem found_done {t : St} (h0 : Gd t) : Bfs.Done (mvf moved can) t (found can t) :=
 Bfs.search_done _ t (spots W H t.d) (fun w s hd hr => mem_spots hB h0 w s hd hr) 1001 (by have := spots_small hB t.d; omega)
theorem found_length {t : St} (h0 : Gd t) : (found can t).length ≤ 864 := by
 have hd := found_done hB h0
 have hp : ((found can t).map Prod.fst).Pairwise (fun x y => x ≠ y) := List.pairwise_map.2 hd.apart
 have h1 := Bfs.length_le_of_apart ((found can t).map Prod.fst) (spots W H t.d) hp (fun s hs => by
  obtain ⟨⟨a, w⟩, hm, rfl⟩ := List.mem_map.1 hs
  exact mem_spots hB h0 w _ (hd.small _ _ hm) (hd.leads _ _ hm))
 have := spots_small hB t.d
 rw [List.length_map] at h1
 omega
theorem inv_gd {t : St} (h0 : Gd t) {L : Bfs.Nodes St} {k i : Nat} (hi : Bfs.Inv (mvf moved can) t L k i) {x : St × List Nat} (hx : x ∈ L) : Gd x.1 :=
 (run_die hB x.2 t x.1 h0 (hi.leads x.1 x.2 hx)).2
end
def codeV (W : Int) (t : St) : Int := 10 * (10 * (10 * (10 * (10 * (10 * (t.y * W + t.x) + t.d.t) + t.d.n) + t.d.e) + t.d.s) + t.d.w) + t.d.b
theorem dig {A B a b : Int} (h : 10 * A + a = 10 * B + b) (ha : 0 ≤ a ∧ a ≤ 9) (hb : 0 ≤ b ∧ b ≤ 9) : A = B ∧ a = b := by omega
theorem place_inj {W : Int} (hW : W ≤ 7) {x y x' y' : Int} (hx : 0 ≤ x ∧ x < W) (hx' : 0 ≤ x' ∧ x' < W) (h : y * W + x = y' * W + x') : x = x' ∧ y = y' := by
 have : W = 1 ∨ W = 2 ∨ W = 3 ∨ W = 4 ∨ W = 5 ∨ W = 6 ∨ W = 7 := by omega
 rcases this with rfl | rfl | rfl | rfl | rfl | rfl | rfl
 all_goals omega
theorem good_iff {d : Die} (h : good d.t d.n d.e d.s d.w d.b = true) : (0 ≤ d.t ∧ d.t ≤ 9) ∧ (0 ≤ d.n ∧ d.n ≤ 9) ∧ (0 ≤ d.e ∧ d.e ≤ 9) ∧ (0 ≤ d.s ∧ d.s ≤ 9) ∧ (0 ≤ d.w ∧ d.w ≤ 9) ∧ (0 ≤ d.b ∧ d.b ≤ 9) := by
 simp only [good, List.all_cons, List.all_nil, Bool.and_true, Bool.and_eq_true, inB_iff] at h
 exact h
section
variable {can : St → Nat → Bool} {Gd : St → Prop} {W H : Nat} (hB : Rules can Gd W H)
include hB
theorem code_inj (a b : St) (ha : Gd a) (hb : Gd b) (he : codeV W a = codeV W b) : a = b := by
 obtain ⟨⟨x0, x1⟩, y0, y1⟩ := hB.inn _ ha
 obtain ⟨⟨u0, u1⟩, v0, v1⟩ := hB.inn _ hb
 have w7 := hB.w7
 obtain ⟨a1, a2, a3, a4, a5, a6⟩ := good_iff (hB.dig _ ha)
 obtain ⟨b1, b2, b3, b4, b5, b6⟩ := good_iff (hB.dig _ hb)
 unfold codeV at he
 obtain ⟨he, e6⟩ := dig he a6 b6
 obtain ⟨he, e5⟩ := dig he a5 b5
 obtain ⟨he, e4⟩ := dig he a4 b4
 obtain ⟨he, e3⟩ := dig he a3 b3
 obtain ⟨he, e2⟩ := dig he a2 b2
 obtain ⟨he, e1⟩ := dig he a1 b1
 obtain ⟨ex, ey⟩ := place_inj (by omega) ⟨x0, x1⟩ ⟨u0, u1⟩ he
 obtain ⟨xa, ya, ⟨p1, p2, p3, p4, p5, p6⟩⟩ := a
 obtain ⟨xb, yb, ⟨q1, q2, q3, q4, q5, q6⟩⟩ := b
 simp only at ex ey e1 e2 e3 e4 e5 e6
 subst ex ey e1 e2 e3 e4 e5 e6
 rfl
theorem code_small {t : St} (ht : Gd t) : 0 ≤ t.y * (W : Int) + t.x ∧ t.y * (W : Int) + t.x ≤ 100 ∧ 0 ≤ t.y * (W : Int) ∧ t.y * (W : Int) ≤ 49 := by
 obtain ⟨⟨x0, x1⟩, y0, y1⟩ := hB.inn _ ht
 have w7 := hB.w7
 have h7 := hB.h7
 have hm : t.y * (W : Int) ≤ 7 * 7 := Int.mul_le_mul (by omega) (by omega) (by omega) (by omega)
 have hp : 0 ≤ t.y * (W : Int) := Int.mul_nonneg y0 (by omega)
 omega
end
def mB (l : List UInt8) (t : St) : Bool := matchB l t.x t.y t.d.t
def canL (l : List UInt8) (t : St) (k : Nat) : Bool := canB (l.map unlab) t k && mB l (moved t k)
def GdL (l : List UInt8) (t : St) : Prop := (floorB (l.map unlab) t.x t.y = true ∧ good t.d.t t.d.n t.d.e t.d.s t.d.w t.d.b = true) ∧ mB l t = true
theorem rules {l : List UInt8} (h : IsB okL l) : Rules (canL l) (GdL l) (wide l) (high l) where
 go := fun t i hg hc => by
  unfold canL at hc
  rw [Bool.and_eq_true] at hc
  exact ⟨⟨hc.1, good_roll t.d i hg.1.2⟩, hc.2⟩
 inn := fun t hg => by
  have := floor_has hg.1.1
  rw [has_map] at this
  obtain ⟨h1, h2⟩ := has_iff.1 this
  exact ⟨h2, h1⟩
 dig := fun t hg => hg.1.2
 w7 := h.w7
 h7 := h.h7
 c36 := h.c36
theorem overS_eq (s : ByteArray) (h : IsB okL s.data.toList) (t : St) (hx : 0 ≤ t.x ∧ t.x < 7) (hy : 0 ≤ t.y ∧ t.y < 7) (c : Int) (hm : mB s.data.toList t = true) :
  Over.says (gridOf s) t.x t.y t.d.t t.d.n t.d.e t.d.s t.d.w t.d.b c = some (flat (moved t (Dirs.dirOf c)) (canL s.data.toList t (Dirs.dirOf c))) := by
 have hp : IsB okB (ReadLab.plainText s).data.toList := by
  rw [plain_list]
  exact (plainB h)
 have q := gridRoll_eq (ReadLab.plainText s) hp t hx hy c
 rw [plain_list] at q
 unfold Over.says canL
 rw [floor_at s h, Option.bind_some, q, Option.bind_some]
 cases hc : canB (s.data.toList.map unlab) t (Dirs.dirOf c) with
 | false => rfl
 | true =>
  unfold mB at hm ⊢
  rw [if_pos rfl, matches_eq s h, Option.bind_some, hm, if_pos rfl]
  simp only
  rw [matches_eq s h, Option.bind_some]
  simp
end Go.Proofs.YtjeimidekekklaaDoor.SearchG
