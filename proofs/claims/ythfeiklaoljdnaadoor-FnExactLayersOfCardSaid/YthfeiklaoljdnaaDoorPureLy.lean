/- Plain law: how many states lie how far is the reference's. Conditions: none. -/
import Derived.Test.YthfeiklaoljdnaaDoorQLyx
import Derived.Test.YthfeiklaoljdnaaDoorLayersR
namespace Go.Proofs.YthfeiklaoljdnaaDoor.PureLy
open Go.RowKit Go.Proofs.YthfeiklaoljdnaaDoor.QLy Go.Proofs.YthfeiklaoljdnaaDoorW.PrintWords Go.Proofs.YthfeiklaoljdnaaDoorW.PrintLast Go.Proofs.YthfeiklaoljdnaaDoor.Board Go.Proofs.YthfeiklaoljdnaaDoor.BaseR Go.Proofs.YthfeiklaoljdnaaDoor.Search Go.Proofs.YthfeiklaoljdnaaDoor.On Go.Proofs.YthfeiklaoljdnaaDoor.LayersR Go.Proofs.YthfeiklaoljdnaaDoor.IntR Go.Proofs.YthfeiklaoljdnaaDoor.WyR
open Go.Proofs.YthfeiklaoljdnaaDoor.Reach (St)
set_option linter.unusedVariables false
set_option linter.unusedSimpArgs false

/-! ### Lists of numbers: compared, marked, asked -/
theorem eqInts (l : List Int) (hl : l.length ≤ 1000) : ∀ (n i k : Nat), i + n = l.length → n < k → laws_eqIntS.l0 k l l i = some true := by
 intro n
 induction n with
 | zero =>
  intro i k hi hk
  obtain ⟨k, rfl⟩ : ∃ m, k = m + 1 := ⟨k - 1, by omega⟩
  rw [laws_eqIntS.l0, if_neg (by omega)]
 | succ n ih =>
  intro i k hi hk
  obtain ⟨k, rfl⟩ : ∃ m, k = m + 1 := ⟨k - 1, by omega⟩
  rw [laws_eqIntS.l0, if_pos (by omega), if_pos (by omega), if_pos (by omega), if_pos rfl, BaseR.up (by omega)]
  exact ih (i + 1) k (by omega) (by omega)
theorem eqInts_at (l : List Int) (hl : l.length ≤ 1000) (k : Nat) (hk : l.length < k) : laws_eqIntS.f k l l = some true := by
 rw [laws_eqIntS.f, if_pos rfl]
 exact eqInts l hl l.length 0 k (by omega) (by omega)
/-- What is left behind a marking: m, m+1, .. from a place on. -/
theorem markInts : ∀ (n i k m : Nat) (l : List Int), i + n = l.length → n < k → m + n ≤ 1000000 → n ≤ 1000 → l.length ≤ 1000 →
  ∃ l', laws_markIntS.l0 k l m i = some (((m + n : Nat) : Int), l') ∧ l'.length = l.length ∧ (∀ j, j < i → l'.getD j 0 = l.getD j 0) ∧ ∀ j, j < n → l'.getD (i + j) 0 = ((m + j : Nat) : Int) := by
 intro n
 induction n with
 | zero =>
  intro i k m l hi hk hm hn hl
  obtain ⟨k, rfl⟩ : ∃ q, k = q + 1 := ⟨k - 1, by omega⟩
  exact ⟨l, by rw [laws_markIntS.l0, if_neg (by omega)]; rfl, rfl, fun _ _ => rfl, fun j hj => by omega⟩
 | succ n ih =>
  intro i k m l hi hk hm hn hl
  obtain ⟨k, rfl⟩ : ∃ q, k = q + 1 := ⟨k - 1, by omega⟩
  obtain ⟨l', h1, h2, h3, h4⟩ := ih (i + 1) k (m + 1) (l.set i m) (by simp; omega) (by omega) (by omega) (by omega) (by simpa using hl)
  refine ⟨l', ?_, by simpa using h2, fun j hj => ?_, fun j hj => ?_⟩
  ·rw [laws_markIntS.l0, if_pos (by omega), if_pos (by omega), BaseR.up (by omega), BaseR.up (by omega), Int.toNat_natCast, h1]
   congr 3
   omega
  ·rw [h3 j (by omega)]
   simp [List.getD, List.getElem?_set, show i ≠ j by omega]
  ·rcases j with _ | j
   ·rw [Nat.add_zero, h3 i (by omega)]
    simp [List.getD, show i < l.length by omega]
   ·have := h4 j (by omega)
    rw [show i + (j + 1) = i + 1 + j from by omega, this]
    congr 1
    omega
theorem heldInts (l : List Int) (hl : l.length ≤ 1000) : ∀ (n i k m : Nat), i + n = l.length → n < k → m + n ≤ 1000000 → (∀ j, j < n → l.getD (i + j) 0 = ((m + j : Nat) : Int)) → laws_heldIntS.l0 k l m i = some ((m + n : Nat) : Int) := by
 intro n
 induction n with
 | zero =>
  intro i k m hi hk hm h
  obtain ⟨k, rfl⟩ : ∃ q, k = q + 1 := ⟨k - 1, by omega⟩
  rw [laws_heldIntS.l0, if_neg (by omega)]
  rfl
 | succ n ih =>
  intro i k m hi hk hm h
  obtain ⟨k, rfl⟩ : ∃ q, k = q + 1 := ⟨k - 1, by omega⟩
  have h0 := h 0 (by omega)
  rw [Nat.add_zero, Nat.add_zero] at h0
  have hr : rd l (i : Int) = (m : Int) := by rw [rd, Int.toNat_natCast, h0]
  rw [laws_heldIntS.l0, if_pos (by omega), if_pos (by omega), hr, if_pos rfl, BaseR.up (by omega), BaseR.up (by omega), ih (i + 1) k (m + 1) (by omega) (by omega) (by omega) (fun j hj => by
   have := h (j + 1) (by omega)
   rw [show i + 1 + j = i + (j + 1) from by omega, this]
   congr 1
   omega)]
  congr 2
  omega
theorem marked (l : List Int) (hl : l.length ≤ 1000) (k : Nat) (hk : l.length < k) : ∃ l', laws_markIntS.f k l 1 = some (((1 + l.length : Nat) : Int), l') ∧ ∀ k, l.length < k → laws_heldIntS.f k l' 1 = some ((1 + l.length : Nat) : Int) := by
 obtain ⟨l', h1, h2, _, h4⟩ := markInts l.length 0 k 1 l (by omega) hk (by omega) hl hl
 refine ⟨l', h1, fun k hk => ?_⟩
 have := heldInts l' (by omega) l.length 0 k 1 (by omega) hk (by omega) h4
 exact this
def layP (p : Nat) (fs : List Nat) : List Int := (List.range p).map fun k => (cnt fs k : Int)
theorem layP_length (p : Nat) (fs : List Nat) : (layP p fs).length = p := by
 unfold layP
 rw [List.length_map, List.length_range]
theorem layP_at (p : Nat) (fs : List Nat) (k : Nat) (hk : k < p) : (layP p fs)[k]? = some (cnt fs k : Int) := by
 unfold layP
 rw [List.getElem?_map, List.getElem?_range hk]
 rfl
theorem layP_pad (p d : Nat) (fs : List Nat) (h : ∀ x ∈ fs, x < p) : layP p fs ++ List.replicate d 0 = layP (p + d) fs := by
 apply List.ext_getElem?
 intro k
 by_cases h1 : k < p
 ·rw [List.getElem?_append_left (by rw [layP_length]; exact h1), layP_at p fs k h1, layP_at (p + d) fs k (by omega)]
 ·rw [List.getElem?_append_right (by rw [layP_length]; omega), layP_length]
  by_cases h2 : k < p + d
  ·rw [layP_at (p + d) fs k h2, List.getElem?_replicate, if_pos (by omega)]
   have : cnt fs k = 0 := by
    unfold cnt
    rw [List.length_eq_zero_iff, List.filter_eq_nil_iff]
    intro a ha hb
    have := h a ha
    simp at hb
    omega
   rw [this]
   rfl
  ·rw [List.getElem?_eq_none (by rw [List.length_replicate]; omega), List.getElem?_eq_none (by rw [layP_length]; omega)]
theorem pad_l1 (x21 : List QBs.S69) (x22 x23 e0 e1 e2 e3 e4 e5 e6 e7 e9 e10 e11 e12 e13 e14 e15 : Int) (f : Nat) (hf : f ≤ 2000) : ∀ (d : Nat) (x8 : List Int) (k : Nat), x8.length + d = f + 1 →
  spec_LayersOf.l1 (k + d + 1) x8 x21 x22 x23 e0 e1 e2 e3 e4 e5 e6 e7 (f : Int) e9 e10 e11 e12 e13 e14 e15 =
   spec_LayersOf.l0 k ((x8 ++ List.replicate d 0).set f (wrap64 (rd (x8 ++ List.replicate d 0) (f : Int) + 1))) x21 x22 (wrap64 (x23 + 1)) := by
 intro d
 induction d with
 | zero =>
  intro x8 k h
  rw [spec_LayersOf.l1, if_neg (by omega), if_pos (by omega), if_pos (by omega), Int.toNat_natCast, List.replicate_zero, List.append_nil]
 | succ d ih =>
  intro x8 k h
  rw [show k + (d + 1) + 1 = (k + d + 1) + 1 from by omega, spec_LayersOf.l1, if_pos (by omega), if_pos (by omega), ih (x8 ++ [0]) k (by rw [List.length_append, List.length_singleton]; omega)]
  rw [List.replicate_succ, List.append_assoc, List.singleton_append]
theorem fars_take {L : Bfs.Nodes St} {i : Nat} {x : St × List Nat} (hx : L[i]? = some x) : (fars L).take (i + 1) = (fars L).take i ++ [x.2.length] := by
 rw [List.take_add_one]
 congr 1
 rw [fars, List.getElem?_map, hx]
 rfl
theorem lay_l0 {mv : St → Nat → Option St} {s0 : St} {L : Bfs.Nodes St} (hd : Bfs.Done mv s0 L) {ns : List Nd} (hp : WyPj.Pj ns L) (hl : L.length ≤ 1000) : ∀ (r i p k : Nat), i + r = L.length →
  (p = 0 ∧ i = 0 ∨ ∃ j x, i = j + 1 ∧ L[j]? = some x ∧ p = x.2.length + 1) → 2 * r + 2000 < k + p →
  spec_LayersOf.l0 k (layP p ((fars L).take i)) (ns.map sNd) (ns.length : Int) (i : Int) = some (lay (lastFar L) (fars L), true) := by
 intro r
 induction r with
 | zero =>
  intro i p k hi hpp hk
  obtain ⟨k, rfl⟩ : ∃ m, k = m + 1 := by
   rcases hpp with ⟨h1, h2⟩ | ⟨j, x, h1, h2, h3⟩
   ·exact ⟨k - 1, by omega⟩
   ·have := word_short hd j x h2
    have := (List.getElem?_eq_some_iff.1 h2).1
    exact ⟨k - 1, by omega⟩
  rw [spec_LayersOf.l0, if_neg (by rw [hp.len]; omega), List.take_of_length_le (by rw [fars, List.length_map]; omega)]
  rcases hpp with ⟨h1, h2⟩ | ⟨j, x, h1, h2, h3⟩
  ·have := (List.getElem?_eq_some_iff.1 hd.root).1
   omega
  ·have hlast : lastFar L = x.2.length := by
    rw [lastFar, List.getLastD_eq_getLast?, List.getLast?_eq_getElem?, fars, List.length_map, show L.length - 1 = j from by omega, List.getElem?_map, h2]
    rfl
   rw [hlast, h3]
   rfl
 | succ r ih =>
  intro i p k hi hpp hk
  have hlt : i < L.length := by omega
  obtain ⟨x, hx⟩ : ∃ x, L[i]? = some x := ⟨_, List.getElem?_eq_getElem hlt⟩
  have hsh := word_short hd i x hx
  have hpf : p ≤ x.2.length + 1 := by
   rcases hpp with ⟨h1, h2⟩ | ⟨j, y, h1, h2, h3⟩
   ·omega
   ·have := Reach.far_mono hd.rising h2 hx (by omega)
    omega
  have hsm : ∀ z ∈ (fars L).take i, z < p := by
   intro z hz
   obtain ⟨q, hq⟩ := List.mem_iff_getElem?.1 hz
   have hqi : q < i := by
    have := (List.getElem?_eq_some_iff.1 hq).1
    rw [List.length_take] at this
    omega
   rw [List.getElem?_take_of_lt hqi, fars, List.getElem?_map] at hq
   cases hy : L[q]? with
   | none => rw [hy] at hq; cases hq
   | some y =>
    rw [hy, Option.map_some] at hq
    injection hq with hq
    rcases hpp with ⟨h1, h2⟩ | ⟨j, v, h1, h2, h3⟩
    ·omega
    ·have := Reach.far_mono hd.rising hy h2 (by omega)
     omega
  obtain ⟨d, hdd⟩ : ∃ d, d = x.2.length + 1 - p := ⟨_, rfl⟩
  obtain ⟨k, rfl⟩ : ∃ q, k = q + d + 1 + 1 := ⟨k - d - 2, by omega⟩
  have hin : i < ns.length := by rw [hp.len]; exact hlt
  obtain ⟨_, hf, _, _⟩ := hp.at (List.getElem?_eq_getElem hin) hx
  have hr : QBs.rd_T69 (ns.map sNd) (i : Int) = sNd ns[i] := by simp [QBs.rd_T69, List.getD, hin]
  have hff : (QBs.rd_T69 (ns.map sNd) (i : Int)).f1 = (x.2.length : Int) := by rw [hr]; exact hf
  rw [spec_LayersOf.l0, if_pos (by omega), if_pos (by omega), if_pos (by rw [List.length_map]; omega), hff, pad_l1 _ _ _ _ _ _ _ _ _ _ _ _ _ _ _ _ _ _ x.2.length (by omega) d _ k (by rw [layP_length]; omega), layP_pad p d _ hsm, show p + d = x.2.length + 1 from by omega]
  have hrd : rd (layP (x.2.length + 1) ((fars L).take i)) (x.2.length : Int) = (cnt ((fars L).take i) x.2.length : Int) := by
   rw [rd, Int.toNat_natCast, List.getD_eq_getElem?_getD, layP_at _ _ _ (by omega)]
   rfl
  have hcl : cnt ((fars L).take i) x.2.length ≤ 1000 := by
   refine Nat.le_trans (cnt_le _ _) ?_
   rw [List.length_take]
   omega
  have hw : wrap64 ((cnt ((fars L).take i) x.2.length : Int) + 1) = (cnt ((fars L).take i) x.2.length : Int) + 1 := by unfold wrap64; omega
  rw [hrd, hw, show (layP (x.2.length + 1) ((fars L).take i)).set x.2.length ((cnt ((fars L).take i) x.2.length : Int) + 1) = lay x.2.length ((fars L).take i ++ [x.2.length]) from lay_set x.2.length _ x.2.length (Nat.le_refl _), ← fars_take hx, succ_wrap (by omega)]
  exact ih (i + 1) (x.2.length + 1) k (by omega) (.inr ⟨i, x, rfl, hx, rfl⟩) (by omega)
theorem both (s : ByteArray) (hs : s.size ≤ 1048576) (x y a0 a1 a2 a3 a4 a5 : Int) : ∃ (l : List Int) (b : Bool), l.length ≤ 1000 ∧ impl_LayersOf.f s x y a0 a1 a2 a3 a4 a5 = some (l, b) ∧ ∀ k, 3 * s.size + 4100 < k → spec_LayersOf.f k s x y a0 a1 a2 a3 a4 a5 = some (l, b) := by
 refine ⟨layersF s ⟨x, y, ⟨a0, a1, a2, a3, a4, a5⟩⟩, askB s ⟨x, y, ⟨a0, a1, a2, a3, a4, a5⟩⟩, ?_, ?_, ?_⟩
 ·unfold layersF
  cases ha : askB s ⟨x, y, ⟨a0, a1, a2, a3, a4, a5⟩⟩ with
  | false => simp
  | true =>
   obtain ⟨hi, hg⟩ := ask_iff.1 ha
   have hd := found_done (box hi) hg
   have hlen := found_length (box hi) hg
   rw [if_pos rfl, lay_length]
   obtain ⟨L, hL⟩ : ∃ L, L = found (floorB s.data.toList) ⟨x, y, ⟨a0, a1, a2, a3, a4, a5⟩⟩ := ⟨_, rfl⟩
   rw [← hL] at hd hlen
   show lastFar (found (floorB s.data.toList) ⟨x, y, ⟨a0, a1, a2, a3, a4, a5⟩⟩) + 1 ≤ 1000
   rw [← hL]
   have hpos := (List.getElem?_eq_some_iff.1 hd.root).1
   obtain ⟨v, hv⟩ : ∃ v, L[L.length - 1]? = some v := ⟨_, List.getElem?_eq_getElem (by omega)⟩
   have := word_short hd _ v hv
   have hlast : lastFar L = v.2.length := by
    rw [lastFar, List.getLastD_eq_getLast?, List.getLast?_eq_getElem?, fars, List.length_map, List.getElem?_map, hv]
    rfl
   omega
 ·unfold impl_LayersOf.f
  rw [if_pos hs]
 ·intro k hk
  unfold spec_LayersOf.f
  rw [show spec_boAsked.f k s x y a0 a1 a2 a3 a4 a5 = _ from asked_at s x y a0 a1 a2 a3 a4 a5 k (by omega), Option.bind_some]
  unfold layersF
  cases hc : isB okB s.data.toList with
  | false =>
   have ha : askB s ⟨x, y, ⟨a0, a1, a2, a3, a4, a5⟩⟩ = false := by
    unfold askB
    rw [hc]
    rfl
   rw [ha]
   rfl
  | true =>
   have hi := isB_iff.1 hc
   rw [if_pos rfl]
   simp only
   cases hst : stateB s.data.toList x y a0 a1 a2 a3 a4 a5 with
   | false =>
    have ha : askB s ⟨x, y, ⟨a0, a1, a2, a3, a4, a5⟩⟩ = false := by
     unfold askB
     rw [hc, hst]
     rfl
    rw [ha]
    rfl
   | true =>
    have ha : askB s ⟨x, y, ⟨a0, a1, a2, a3, a4, a5⟩⟩ = true := by
     unfold askB
     rw [hc, hst]
     rfl
    obtain ⟨_, hg⟩ := ask_iff.1 ha
    have hp := nodes_q (box hi) hg
    have hd := found_done (box hi) hg
    have hlen := found_length (box hi) hg
    have h1 := wyF_eq hi hg
    have hl0 := lay_l0 hd hp (Nat.le_trans hlen (by decide)) _ 0 0 k (Nat.zero_add _) (.inl ⟨rfl, rfl⟩) (by omega)
    rw [ha, if_pos rfl, if_pos rfl, spec_wyAll.f, h1, Option.bind_some, List.length_map]
    exact hl0
theorem layersOf (s : ByteArray) (x y a0 a1 a2 a3 a4 a5 : Int) : ∃ k, laws_FnExactLayersOf.f k s x y a0 a1 a2 a3 a4 a5 = some true := by
 refine ⟨3 * s.size + 4200, ?_⟩
 unfold laws_FnExactLayersOf.f
 by_cases h : (s.size : Int) > 1048576
 ·rw [if_pos h]
 ·obtain ⟨l, b, hl, p2, hb⟩ := both s (by omega) x y a0 a1 a2 a3 a4 a5
  obtain ⟨K, hK⟩ : ∃ K, 3 * s.size + 4200 = K + 2 := ⟨3 * s.size + 4198, by omega⟩
  have p1 := hb (K + 2) (by omega)
  obtain ⟨l', m1, m2⟩ := marked l (by omega) (K + 1) (by omega)
  rw [if_neg h, laws_toState.f, laws_toDie.f, hK]
  simp only [Option.bind_some]
  rw [p1]
  simp only [Option.bind_some]
  rw [p2]
  simp only [Option.bind_some]
  rw [eqInts_at l (by omega) (K + 2) (by omega)]
  simp only [Option.bind_some, if_true]
  rw [laws_FnExactLayersOf.j0, if_neg (by simp), m1]
  simp only [Option.bind_some]
  rw [m2 (K + 1) (by omega)]
  simp only [Option.bind_some]
  rw [if_neg (by omega), if_pos trivial, laws_toState.f, laws_toDie.f]
  simp only [Option.bind_some]
  rw [p2]
  simp only [Option.bind_some]
  rw [eqInts_at l (by omega) (K + 1) (by omega)]
  simp only [Option.bind_some, if_true]
  rw [laws_FnExactLayersOf.j1, if_neg (by simp), m2 K (by omega)]
  simp only [Option.bind_some]
  rw [if_neg (by omega), if_pos trivial]
end Go.Proofs.YthfeiklaoljdnaaDoor.PureLy
