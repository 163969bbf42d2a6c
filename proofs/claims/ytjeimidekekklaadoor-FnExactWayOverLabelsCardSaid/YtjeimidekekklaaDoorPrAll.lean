/- Plain law: the reference's search over labels finds what the plain search finds, word by word. Conditions: none. -/
import Derived.Test.YtjeimidekekklaaDoorSearchG
namespace Go.Proofs.YtjeimidekekklaaDoor.PrAll
open Go.RowKit Go.Proofs.YtjeimidekekklaaDoor.QBs Go.Proofs.YtjeimidekekklaaDoorW.PrintWords Go.Proofs.YtjeimidekekklaaDoorW.PrintLast Go.Proofs.YtjeimidekekklaaDoor.Board Go.Proofs.YtjeimidekekklaaDoor.IsDie Go.Proofs.YtjeimidekekklaaDoor.BaseM Go.Proofs.YtjeimidekekklaaDoor.ReachR Go.Proofs.YtjeimidekekklaaDoor.SearchG
open Go.Proofs.YtjeimidekekklaaDoor.Reach (St)
open Go.Proofs.YtjeimidekekklaaDoor.Reached (mvf one_new one_has one_cannot)
open Go.Proofs.YtjeimidekekklaaDoor.ByteRow (unlab)
set_option linter.unusedVariables false
set_option linter.unusedSimpArgs false

def bytB (d : Nat) : UInt8 := if d = 0 then 110 else if d = 1 then 101 else if d = 2 then 115 else 119
def textOf (w : List Nat) : ByteArray := ⟨(w.map bytB).toArray⟩
theorem text_size (w : List Nat) : (textOf w).size = w.length := by
 show (w.map bytB).toArray.size = w.length
 simp
theorem text_snoc (w : List Nat) (d : Nat) : textOf w ++ (⟨#[bytB d]⟩ : ByteArray) = textOf (w ++ [d]) := by
 apply ByteArray.ext
 simp [textOf, ByteArray.data_append]
theorem letter_of (i : Nat) (hi : i < 4) : (⟨#[110, 101, 115, 119]⟩ : ByteArray).extract i (i + 1) = ⟨#[bytB i]⟩ := by
 rcases i with _ | _ | _ | _ | i
 ·rfl
 ·rfl
 ·rfl
 ·rfl
 ·omega
def plc : List Int → Int → Int → Int
 | [], _, _ => -1
 | a :: l, c, j => if a = c then j else plc l c (j + 1)
theorem plc_none {l : List Int} {c : Int} : ∀ {j : Int}, 0 ≤ j → (plc l c j < 0 ↔ c ∉ l) := by
 induction l with
 | nil => intro j hj; simp [plc]
 | cons a l ih =>
  intro j hj
  unfold plc
  by_cases h : a = c
  ·rw [if_pos h]
   simp [h]
   exact hj
  ·rw [if_neg h, ih (by omega)]
   simp only [List.mem_cons, not_or]
   exact ⟨fun hh => ⟨fun e => h e.symm, hh⟩, fun hh => hh.2⟩
theorem place_at (l : List Int) (x : Int) (hl : l.length ≤ 1000) : ∀ (d i k : Nat), i + d = l.length → d < k → spec_wyPlace.l0 k x l l.length i = some (plc (l.drop i) x i) := by
 intro d
 induction d with
 | zero =>
  intro i k hi hk
  obtain ⟨k, rfl⟩ : ∃ m, k = m + 1 := ⟨k - 1, by omega⟩
  rw [spec_wyPlace.l0, if_neg (by omega), List.drop_eq_nil_of_le (by omega)]
  rfl
 | succ d ih =>
  intro i k hi hk
  obtain ⟨k, rfl⟩ : ∃ m, k = m + 1 := ⟨k - 1, by omega⟩
  have hlt : i < l.length := by omega
  rw [spec_wyPlace.l0, if_pos (by omega), if_pos (by omega), if_pos (by omega)]
  rw [List.drop_eq_getElem_cons hlt, plc]
  have hr : rd l i = l[i] := by simp [rd, hlt]
  rw [hr]
  by_cases h : l[i] = x
  ·rw [if_pos h, if_pos h]
  ·rw [if_neg h, if_neg h, BaseM.succ_wrap (by omega), ih (i + 1) k (by omega) (by omega)]
   rfl
theorem wyPlace_eq (l : List Int) (x : Int) (hl : l.length ≤ 1000) (k : Nat) (hk : 1000 < k) : spec_wyPlace.f k l x = some (plc l x 0) := by
 have := place_at l x hl l.length 0 k (by omega) (by omega)
 rw [List.drop_zero] at this
 exact this
theorem code_step (k : Nat) (v a0 a1 a2 a3 a4 a5 b : Int) (i : Nat) (hi : i < 6) (hv : 0 ≤ v ∧ v ≤ 100000000) (hb : rd [a0, a1, a2, a3, a4, a5] (i : Int) = b) (h9 : 0 ≤ b ∧ b ≤ 9) :
  spec_wyCode.l0 (k + 1) v [a0, a1, a2, a3, a4, a5] (([a0, a1, a2, a3, a4, a5] : List Int).length : Int) (i : Int) = spec_wyCode.l0 k (10 * v + b) [a0, a1, a2, a3, a4, a5] (([a0, a1, a2, a3, a4, a5] : List Int).length : Int) ((i + 1 : Nat) : Int) := by
 have hl : (([a0, a1, a2, a3, a4, a5] : List Int).length : Int) = 6 := rfl
 have e : wrap64 (wrap64 (10 * v) + b) = 10 * v + b := by unfold wrap64; omega
 rw [spec_wyCode.l0, hl, if_pos (by omega), if_pos (by omega), if_pos (by omega), hb, e, BaseM.succ_wrap (by omega)]
theorem wyCode_eq (gw gh : Int) (cs : List Int) (t : St) (hg : IsDie.good t.d.t t.d.n t.d.e t.d.s t.d.w t.d.b = true) (hs : 0 ≤ t.y * gw + t.x ∧ t.y * gw + t.x ≤ 100 ∧ 0 ≤ t.y * gw ∧ t.y * gw ≤ 49) (hx : 0 ≤ t.x ∧ t.x < 7) (k : Nat) (hk : 7 ≤ k) :
  spec_wyCode.f k gw gh cs t.x t.y t.d.t t.d.n t.d.e t.d.s t.d.w t.d.b = some (codeV gw t) := by
 obtain ⟨k, rfl⟩ : ∃ m, k = m + 1 + 1 + 1 + 1 + 1 + 1 + 1 := ⟨k - 7, by omega⟩
 obtain ⟨g1, g2, g3, g4, g5, g6⟩ := good_iff hg
 unfold spec_wyCode.f spec_diFaces.f codeV
 rw [Option.bind_some]
 obtain ⟨P, hP⟩ : ∃ P, P = t.y * gw := ⟨_, rfl⟩
 rw [← hP] at hs ⊢
 have e0 : wrap64 (wrap64 P + t.x) = P + t.x := by unfold wrap64; omega
 rw [e0]
 rw [show (0 : Int) = ((0 : Nat) : Int) from rfl, code_step _ _ _ _ _ _ _ _ t.d.t 0 (by omega) (by omega) rfl g1, code_step _ _ _ _ _ _ _ _ t.d.n 1 (by omega) (by omega) rfl g2, code_step _ _ _ _ _ _ _ _ t.d.e 2 (by omega) (by omega) rfl g3, code_step _ _ _ _ _ _ _ _ t.d.s 3 (by omega) (by omega) rfl g4, code_step _ _ _ _ _ _ _ _ t.d.w 4 (by omega) (by omega) rfl g5, code_step _ _ _ _ _ _ _ _ t.d.b 5 (by omega) (by omega) rfl g6]
 rw [spec_wyCode.l0, if_neg (by simp)]
theorem can_has {l : List UInt8} {t : St} {k : Nat} (h : canB (l.map unlab) t k = true) : hasB l (moved t k).x (moved t k).y = true := by
 rw [← has_map]
 exact floor_has h
theorem prRoll_eq (l : List UInt8) (h : IsB okL l) (t : St) (hx : 0 ≤ t.x ∧ t.x < 7) (hy : 0 ≤ t.y ∧ t.y < 7) (k : Nat) (hk : k < 4) :
  spec_prRoll.f (wide l) (high l) (ints (cells (l.map unlab))) (ints (cells l)) t.x t.y t.d.t t.d.n t.d.e t.d.s t.d.w t.d.b k = some (if canL l t k = true then flat (moved t k) true else zero9) := by
 have q := boRoll_eq _ (plainB h) t hx hy k hk
 rw [wide_map, high_map] at q
 unfold spec_prRoll.f canL
 rw [q, Option.bind_some]
 cases hc : canB (l.map unlab) t k with
 | false => rfl
 | true =>
  rw [if_pos rfl, if_pos rfl]
  simp only
  rw [prMatch_eq l h _ _ _ _ _ _ _ _ _ (can_has hc), Option.bind_some, Bool.true_and]
  show (if matchB l (moved t k).x (moved t k).y (moved t k).d.t = true then _ else _) = _
  unfold mB
  cases matchB l (moved t k).x (moved t k).y (moved t k).d.t <;> rfl
abbrev al (L : Bfs.Nodes St) : List S30 := L.map fun x => sSt x.1
abbrev wo (L : Bfs.Nodes St) : List ByteArray := L.map fun x => textOf x.2
abbrev co (W : Int) (L : Bfs.Nodes St) : List Int := L.map fun x => codeV W x.1
section
variable {l : List UInt8} (hb : IsB okL l) {t0 : St} (h0 : GdL l t0)
include hb h0
theorem dir_l1 {L : Bfs.Nodes St} {k i f : Nat} (hi : Bfs.Inv (mvf moved (canL l)) t0 L k i) (hk : k < L.length) (hi4 : i < 4) (hf : 1000 ≤ f) :
  spec_prAll.l1 (f + 2) (ints (cells l)) (al L) (wo L) (co (wide l) L) (k : Int) (i : Int) (wide l) (high l) (ints (cells (l.map unlab))) =
   spec_prAll.l1 f (ints (cells l)) (al (Bfs.one (mvf moved (canL l)) L k i)) (wo (Bfs.one (mvf moved (canL l)) L k i)) (co (wide l) (Bfs.one (mvf moved (canL l)) L k i)) (k : Int) ((i + 1 : Nat) : Int) (wide l) (high l) (ints (cells (l.map unlab))) := by
 have hR := rules hb
 have hsm := small hR h0 _ _ _ hi
 obtain ⟨x, hx⟩ : ∃ x, L[k]? = some x := ⟨_, List.getElem?_eq_getElem hk⟩
 have hgx := inv_gd hR h0 hi (List.mem_of_getElem? hx)
 have h77 : ∀ t, GdL l t → (0 ≤ t.x ∧ t.x < 7) ∧ (0 ≤ t.y ∧ t.y < 7) := fun t ht => by
  obtain ⟨⟨x0, x1⟩, y0, y1⟩ := hR.inn _ ht
  have := hR.w7
  have := hR.h7
  omega
 have hal : ((al L).length : Int) = (L.length : Int) := by rw [List.length_map]
 have hrd : rd_T30 (al L) (k : Int) = sSt x.1 := by
  simp only [rd_T30, Int.toNat_natCast, List.getD_eq_getElem?_getD, al, List.getElem?_map, hx, Option.map_some, Option.getD_some]
 have hw1 : wrap64 ((i : Int) + 1) = ((i + 1 : Nat) : Int) := BaseM.succ_wrap (by omega)
 rw [show f + 2 = (f + 1) + 1 from rfl, spec_prAll.l1, if_pos (by omega), if_pos (by omega), if_pos (by omega), hrd]
 show (spec_prRoll.f _ _ _ _ x.1.x x.1.y x.1.d.t x.1.d.n x.1.d.e x.1.d.s x.1.d.w x.1.d.b _).bind _ = _
 rw [prRoll_eq l hb x.1 (h77 _ hgx).1 (h77 _ hgx).2 i hi4, Option.bind_some]
 cases hc : canL l x.1 i with
 | false =>
  rw [one_cannot hx hc, show (if false = true then flat (moved x.1 i) true else zero9) = zero9 from rfl, if_neg (by decide), spec_prAll.j2, if_pos rfl, hw1]
 | true =>
  have hgu := hR.go _ _ hgx hc
  obtain ⟨u, hu⟩ : ∃ u, u = moved x.1 i := ⟨_, rfl⟩
  rw [← hu] at hgu
  rw [if_pos rfl, if_pos rfl]
  simp only
  rw [← hu, wyCode_eq (wide l) (high l) _ u (hR.dig _ hgu) (code_small hR hgu) (h77 _ hgu).1 (f + 1) (by omega), Option.bind_some, wyPlace_eq (co (wide l) L) _ (by rw [List.length_map]; omega) (f + 1) (by omega), Option.bind_some]
  have hpn := plc_none (l := co (wide l) L) (c := codeV (wide l) u) (j := 0) (Int.le_refl 0)
  have hmem : codeV (wide l) u ∈ co (wide l) L ↔ u ∈ L.map (·.1) := by
   constructor
   ·intro hm
    obtain ⟨z, hz, he⟩ := List.mem_map.1 hm
    have := code_inj hR _ _ (inv_gd hR h0 hi hz) hgu he
    exact List.mem_map.2 ⟨z, hz, this⟩
   ·intro hm
    obtain ⟨z, hz, he⟩ := List.mem_map.1 hm
    exact List.mem_map.2 ⟨z, hz, by rw [he]⟩
  by_cases hin : u ∈ L.map (·.1)
  ·have hge : plc (co (wide l) L) (codeV (wide l) u) 0 ≥ 0 := by
    have : ¬ plc (co (wide l) L) (codeV (wide l) u) 0 < 0 := fun hlt => hpn.1 hlt (hmem.2 hin)
    omega
   rw [decide_eq_true hge, spec_prAll.j2, if_pos rfl, hw1, one_has hx hc (by rw [← hu]; exact hin)]
  ·have hlt : plc (co (wide l) L) (codeV (wide l) u) 0 < 0 := hpn.2 (fun hm => hin (hmem.1 hm))
   have hwx := Reached.word_small hi k x hx
   have hrw : rdOf ByteArray.empty (wo L) (k : Int) = textOf x.2 := by
    simp only [rdOf, Int.toNat_natCast, List.getD_eq_getElem?_getD, wo, List.getElem?_map, hx, Option.map_some, Option.getD_some]
   have h4 : (((⟨#[110, 101, 115, 119]⟩ : ByteArray).size : Nat) : Int) = 4 := rfl
   have htn : ((i : Int)).toNat = i := Int.toNat_natCast i
   have htn1 : (((i + 1 : Nat) : Int)).toNat = i + 1 := Int.toNat_natCast (i + 1)
   rw [decide_eq_false (by omega), spec_prAll.j2, if_neg (by decide), if_pos (by rw [List.length_map]; omega), wyCode_eq (wide l) (high l) _ u (hR.dig _ hgu) (code_small hR hgu) (h77 _ hgu).1 f (by omega), Option.bind_some, if_pos (by rw [List.length_map]; omega), if_pos (by omega), if_pos (by rw [List.length_map]; omega), spec_diDirs.f, Option.bind_some, hw1, if_pos (by omega), if_pos (by omega), h4, if_pos (by omega), hrw, htn, htn1, letter_of i hi4, if_pos (by rw [text_size]; show x.2.length + 1 ≤ _; omega), if_pos (by rw [List.length_map]; omega), text_snoc, one_new hx hc (by rw [← hu]; exact hin), ← hu]
   simp only [al, wo, co, List.map_append, List.map_cons, List.map_nil]
theorem dirs_l1 {L : Bfs.Nodes St} {k f : Nat} (hi : Bfs.Inv (mvf moved (canL l)) t0 L k 0) (hk : k < L.length) (hf : 1000 ≤ f) : ∀ n, n ≤ 4 →
  spec_prAll.l1 (f + 2 * n) (ints (cells l)) (al L) (wo L) (co (wide l) L) (k : Int) 0 (wide l) (high l) (ints (cells (l.map unlab))) =
   spec_prAll.l1 f (ints (cells l)) (al (Bfs.some_ (mvf moved (canL l)) L k n)) (wo (Bfs.some_ (mvf moved (canL l)) L k n)) (co (wide l) (Bfs.some_ (mvf moved (canL l)) L k n)) (k : Int) (n : Int) (wide l) (high l) (ints (cells (l.map unlab)))
 | 0, _ => rfl
 | n + 1, hn => by
  obtain ⟨h1, h2⟩ := Bfs.inv_some (mvf moved (canL l)) hi hk n (by omega)
  have := dirs_l1 (f := f + 2) hi hk (by omega) n (by omega)
  rw [show f + 2 * (n + 1) = (f + 2) + 2 * n from by omega, this, dir_l1 hb h0 h1 h2 (by omega) hf]
  rfl
theorem all_l0 {L : Bfs.Nodes St} : ∀ (r : Nat) (L' : Bfs.Nodes St) (k f : Nat), Bfs.Inv (mvf moved (canL l)) t0 L' k 0 → k ≤ L'.length → 1001 ≤ r + k → Bfs.from_ (mvf moved (canL l)) r L' k = L → 12 * r + 2000 ≤ f →
  spec_prAll.l0 f (ints (cells l)) (al L') (wo L') (co (wide l) L') (k : Int) (wide l) (high l) (ints (cells (l.map unlab))) = some (al L, wo L)
 | 0, L', k, f, hi, hk, hr, hL, hf => by
  have := small (rules hb) h0 _ _ _ hi
  omega
 | r + 1, L', k, f, hi, hk, hr, hL, hf => by
  have hsm := small (rules hb) h0 _ _ _ hi
  obtain ⟨f, rfl⟩ : ∃ m, f = (m + 1 + 2 * 4) + 1 := ⟨f - 10, by omega⟩
  unfold Bfs.from_ at hL
  rw [spec_prAll.l0, List.length_map]
  by_cases hlt : k < L'.length
  ·rw [if_pos hlt] at hL
   obtain ⟨h1, h2⟩ := Bfs.inv_some (mvf moved (canL l)) hi hlt 4 (Nat.le_refl _)
   rw [if_pos (by omega), dirs_l1 hb h0 hi hlt (f := f + 1) (by omega) 4 (Nat.le_refl _), spec_prAll.l1, if_neg (by omega), BaseM.succ_wrap (by omega)]
   exact all_l0 r _ (k + 1) f (Bfs.inv_next (mvf moved (canL l)) h1) (by omega) (by omega) hL (by omega)
  ·rw [if_neg hlt] at hL
   rw [if_neg (by omega), hL]
theorem prAll_eq (f : Nat) (hf : 15000 ≤ f) : spec_prAll.f f (wide l) (high l) (ints (cells (l.map unlab))) (ints (cells l)) t0.x t0.y t0.d.t t0.d.n t0.d.e t0.d.s t0.d.w t0.d.b = some (al (found (canL l) t0), wo (found (canL l) t0)) := by
 have hR := rules hb
 have h7 : 0 ≤ t0.x ∧ t0.x < 7 := by
  obtain ⟨⟨x0, x1⟩, y0, y1⟩ := hR.inn _ h0
  have := hR.w7
  omega
 unfold spec_prAll.f
 rw [wyCode_eq (wide l) (high l) _ t0 (hR.dig _ h0) (code_small hR h0) h7 f (by omega), Option.bind_some]
 exact all_l0 hb h0 1001 [(t0, [])] 0 f (Bfs.inv_start _ t0) (by simp) (by omega) rfl (by omega)
end
end Go.Proofs.YtjeimidekekklaaDoor.PrAll
