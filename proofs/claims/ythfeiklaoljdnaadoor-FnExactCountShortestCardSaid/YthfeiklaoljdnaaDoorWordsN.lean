/- Plain law: the reference's counts of shortest words, kept as the search goes, are the program's, counted behind it. Conditions: codes tell good states apart. -/
import Derived.Test.YthfeiklaoljdnaaDoorCountS
namespace Go.Proofs.YthfeiklaoljdnaaDoor.WordsN
open Go.RowKit Go.Proofs.YthfeiklaoljdnaaDoorW.PrintWords Go.Proofs.YthfeiklaoljdnaaDoor.ReachR Go.Proofs.YthfeiklaoljdnaaDoor.WyR Go.Proofs.YthfeiklaoljdnaaDoor.WyPj Go.Proofs.YthfeiklaoljdnaaDoor.BaseR Go.Proofs.YthfeiklaoljdnaaDoor.Search Go.Proofs.YthfeiklaoljdnaaDoor.CountS
open Go.Proofs.YthfeiklaoljdnaaDoor.Reach (St frm)
open Go.Proofs.YthfeiklaoljdnaaDoor.Reached (mvf good_in word_small)
set_option linter.unusedVariables false
set_option linter.unusedSimpArgs false

/-! ### The list only grows -/
section
variable {S : Type} [DecidableEq S] (mv : S → Nat → Option S)
theorem one_pre (L : Bfs.Nodes S) (k d : Nat) : L <+: Bfs.one mv L k d := by
 unfold Bfs.one
 split
 ·exact List.prefix_refl _
 ·split
  ·exact List.prefix_refl _
  ·split
   ·exact List.prefix_refl _
   ·exact List.prefix_append _ _
theorem some_pre (L : Bfs.Nodes S) (k : Nat) : ∀ n, L <+: Bfs.some_ mv L k n
 | 0 => List.prefix_refl _
 | n + 1 => (some_pre L k n).trans (one_pre mv _ k n)
theorem from_pre : ∀ (f : Nat) (L : Bfs.Nodes S) (k : Nat), L <+: Bfs.from_ mv f L k
 | 0, L, _ => List.prefix_refl _
 | f + 1, L, k => by
  unfold Bfs.from_
  split
  ·exact (some_pre mv L k 4).trans (from_pre f _ _)
  ·exact List.prefix_refl _
end
theorem pre_at {α : Type} {L M : List α} (h : L <+: M) {k : Nat} {x : α} (hx : L[k]? = some x) : M[k]? = some x := by
 obtain ⟨t, rfl⟩ := h
 rw [List.getElem?_append_left (List.getElem?_eq_some_iff.1 hx).1]
 exact hx
/-! ### Places -/
theorem place_apart {u : St} : ∀ {l : List St} {j k : Nat}, l.Pairwise (· ≠ ·) → l[k]? = some u → Maps.place u j l = some (j + k)
 | [], j, k, _, h => by simp at h
 | y :: l, j, 0, _, h => by
  simp at h
  subst h
  unfold Maps.place
  rw [if_pos rfl]
  rfl
 | y :: l, j, k + 1, hp, h => by
  obtain ⟨h1, h2⟩ := List.pairwise_cons.1 hp
  rw [List.getElem?_cons_succ] at h
  unfold Maps.place
  rw [if_neg (fun e => h1 u (List.mem_of_getElem? h) e.symm), place_apart h2 h]
  congr 1
  omega
theorem plc_get : ∀ {l : List Int} {c j : Int}, 0 ≤ j → 0 ≤ plc l c j → ∃ k : Nat, plc l c j = j + k ∧ l[k]? = some c
 | [], c, j, _, h => by simp [plc] at h
 | a :: l, c, j, hj, h => by
  unfold plc at h ⊢
  by_cases e : a = c
  ·rw [if_pos e]
   exact ⟨0, by omega, by simp [e]⟩
  ·rw [if_neg e] at h ⊢
   obtain ⟨k, h1, h2⟩ := plc_get (by omega) h
   exact ⟨k + 1, by rw [h1]; omega, by simpa using h2⟩
def padW (ns : List Nd) (n : Nat) : List Int := ns.map (·.words) ++ List.replicate (n - ns.length) 0
theorem padW_at {ns : List Nd} {n k : Nat} {y : Nd} (h : ns[k]? = some y) : (padW ns n)[k]? = some y.words := by
 unfold padW
 rw [List.getElem?_append_left (by rw [List.length_map]; exact (List.getElem?_eq_some_iff.1 h).1), List.getElem?_map, h]
 rfl
theorem padW_new {ns : List Nd} {n : Nat} (h : ns.length < n) : (padW ns n)[ns.length]? = some 0 := by
 unfold padW
 rw [List.getElem?_append_right (by rw [List.length_map]; exact Nat.le_refl _), List.length_map, Nat.sub_self, List.getElem?_replicate, if_pos (by omega)]
theorem padW_set {ns : List Nd} {n k : Nat} {y : Nd} (h : ns[k]? = some y) (v : Int) : padW (ns.set k { y with words := v }) n = (padW ns n).set k v := by
 have hk := (List.getElem?_eq_some_iff.1 h).1
 unfold padW
 rw [List.map_set, List.length_set, List.set_append_left _ _ (by rw [List.length_map]; exact hk)]
theorem padW_snoc {ns : List Nd} {n : Nat} (h : ns.length < n) (y : Nd) (hy : y.words = 0) : padW (ns ++ [y]) n = padW ns n := by
 unfold padW
 rw [List.map_append, List.map_cons, List.map_nil, hy, List.length_append, List.length_singleton, List.append_assoc]
 congr 1
 rw [show n - ns.length = (n - (ns.length + 1)) + 1 from by omega, List.replicate_succ]
 rfl
theorem next_words (x : Nd) (i : Nat) (v : Int) : (x.next i v).words = x.words := by
 unfold Nd.next
 split
 ·rfl
 ·split
  ·rfl
  ·split <;> rfl
theorem setN_words (N : List Nd) (k i : Nat) (v : Int) (n : Nat) : padW (setN N k i v) n = padW N n := by
 unfold setN
 split
 ·next z hz =>
  unfold padW
  rw [List.length_set, map_set (·.words) N k z _ hz (next_words z i v)]
 ·rfl
section
variable {f : Int → Int → Bool} {W H : Nat} (hB : Box f W H) {s0 : St} (h0 : Gd f s0) {L : Bfs.Nodes St} (hd : Bfs.Done (mvf moved (canF f)) s0 L) (hn : L.length ≤ 1000)
include hB h0 hd hn
theorem stepN_w {ns : List Nd} {L' : Bfs.Nodes St} {k i : Nat} (hp : Pj ns L') (hi : Bfs.Inv (mvf moved (canF f)) s0 L' k i) (hk : k < L'.length) (hi4 : i < 4) (hpre : Bfs.one (mvf moved (canF f)) L' k i <+: L) :
  padW (stepN (moS f) (canF f) (codeV W) ns k i) L.length = stepC f L (padW ns L.length) k i := by
 have hap : (L.map (·.1)).Pairwise (· ≠ ·) := List.pairwise_map.2 hd.apart
 have hpl : L' <+: L := (one_pre _ L' k i).trans hpre
 have hall : ∀ s w, (s, w) ∈ L' → Gd f s := fun s w hm => (run_die f w s0 s h0 (hi.leads s w hm)).2
 obtain ⟨x, hx⟩ : ∃ x, L'[k]? = some x := ⟨_, List.getElem?_eq_getElem hk⟩
 have hxL := pre_at hpl hx
 obtain ⟨ns1, hns1⟩ : ∃ ns1, ns1 = setN ns k i (-1) := ⟨_, rfl⟩
 have hp1 : Pj ns1 L' := by
  show ns1.map qN = _
  rw [hns1, setN_q]
  exact hp
 have hw1 : padW ns1 L.length = padW ns L.length := by rw [hns1, setN_words]
 have hkn : k < ns1.length := by rw [hp1.len]; exact hk
 obtain ⟨y, hy⟩ : ∃ y, ns1[k]? = some y := ⟨_, List.getElem?_eq_getElem hkn⟩
 obtain ⟨e1, e2, e3, e4⟩ := hp1.at hy hx
 have hgx : Gd f x.1 := hall x.1 x.2 (List.mem_of_getElem? hx)
 have hlen : x.2.length ≤ 1000 := by
  have := IntR.word_short hd k x hxL
  have := (List.getElem?_eq_some_iff.1 hxL).1
  omega
 have hwr : IntKind.i64.wrap (y.far + 1) = ((x.2.length + 1 : Nat) : Int) := by
  rw [e2, IntWalk.i64_in _ (by omega)]
  omega
 unfold stepN
 rw [← hns1, hy]
 simp only
 rw [← hw1]
 by_cases hc : canF f y.s i = true
 ·have hcx : canF f x.1 i = true := by rw [← e1]; exact hc
  rw [if_pos hc, setN_words]
  have hu : moS f y.s i = moved x.1 i := by
   unfold moS
   rw [if_pos hc, e1]
  rw [hu]
  have hgu : Gd f (moved x.1 i) := gd_moved hgx hcx
  have hcs : codes (codeV W) ns1 = L'.map (fun x => codeV W x.1) := by
   have := congrArg (List.map (codeV W)) hp1.states
   simpa [codes, List.map_map, Function.comp_def] using this
  obtain ⟨p, hpz⟩ : ∃ p, p = plc (codes (codeV W) ns1) (codeV W (moved x.1 i)) 0 := ⟨_, rfl⟩
  have hpn := plc_none (l := codes (codeV W) ns1) (c := codeV W (moved x.1 i)) (j := 0) (Int.le_refl 0)
  rw [← hpz] at hpn ⊢
  by_cases hneg : p < 0
  ·-- a state that has not been found before
   have hnew : moved x.1 i ∉ L'.map (·.1) := fun hm => hpn.1 hneg (by
    rw [hcs]
    obtain ⟨z, hz, he⟩ := List.mem_map.1 hm
    exact List.mem_map.2 ⟨z, hz, by rw [he]⟩)
   rw [Reached.one_new hx hcx hnew] at hpre
   have hL : L[L'.length]? = some (moved x.1 i, x.2 ++ [i]) := pre_at hpre (by simp)
   have hlt : ns1.length < L.length := by
    rw [hp1.len]
    exact (List.getElem?_eq_some_iff.1 hL).1
   have hplc : Maps.place (moved x.1 i) 0 (L.map (·.1)) = some L'.length := by
    have := place_apart (u := moved x.1 i) (l := L.map (·.1)) (j := 0) (k := L'.length) hap (by rw [List.getElem?_map, hL]; rfl)
    rw [this, Nat.zero_add]
   rw [grow, if_pos hneg, atOf, if_pos hneg]
   have hat : (ns1 ++ [newNd y (moved x.1 i) k i])[ns1.length]? = some (newNd y (moved x.1 i) k i) := by simp
   have hak : (ns1 ++ [newNd y (moved x.1 i) k i])[k]? = some y := by rw [List.getElem?_append_left hkn, hy]
   unfold addW
   rw [hat, hak]
   simp only
   rw [if_pos (by rfl), padW_set hat, padW_snoc hlt _ rfl, step_add hxL hcx hplc hL (by rw [List.length_append]; rfl) (cp := 0) (ck := y.words) (by rw [← hp1.len]; exact padW_new hlt) (padW_at hy), ← hp1.len]
   rfl
  ·obtain ⟨q, hq1, hq2⟩ := plc_get (l := codes (codeV W) ns1) (c := codeV W (moved x.1 i)) (Int.le_refl 0) (by rw [← hpz]; omega)
   rw [← hpz, Int.zero_add] at hq1
   rw [hcs, List.getElem?_map] at hq2
   cases hzq : L'[q]? with
   | none => rw [hzq] at hq2; cases hq2
   | some z =>
    rw [hzq, Option.map_some] at hq2
    injection hq2 with hq2
    have hzu : z.1 = moved x.1 i := code_inj hB _ _ (hall z.1 z.2 (List.mem_of_getElem? hzq)) hgu hq2
    have hzL := pre_at hpl hzq
    have hplc : Maps.place (moved x.1 i) 0 (L.map (·.1)) = some q := by
     have := place_apart (u := moved x.1 i) (l := L.map (·.1)) (j := 0) (k := q) hap (by rw [List.getElem?_map, hzL, Option.map_some, hzu])
     rw [this, Nat.zero_add]
    have hqn : q < ns1.length := by rw [hp1.len]; exact (List.getElem?_eq_some_iff.1 hzq).1
    obtain ⟨v, hv⟩ : ∃ v, ns1[q]? = some v := ⟨_, List.getElem?_eq_getElem hqn⟩
    obtain ⟨_, v2, _, _⟩ := hp1.at hv hzq
    rw [grow, if_neg hneg, atOf, if_neg hneg, hq1, Int.toNat_natCast]
    unfold addW
    rw [hv, hy]
    simp only
    rw [hwr]
    by_cases hf : z.2.length = x.2.length + 1
    ·rw [if_pos (by rw [v2, hf]), padW_set hv, step_add hxL hcx hplc hzL hf (padW_at hv) (padW_at hy)]
    ·rw [if_neg (by rw [v2]; omega), step_far hxL hcx hplc hzL hf]
 ·rw [if_neg hc]
  have hcx : canF f x.1 i = false := by
   rw [← e1]
   simpa using hc
  rw [step_no hxL hcx]
theorem someN_w {ns : List Nd} {L' : Bfs.Nodes St} {k : Nat} (hp : Pj ns L') (hi : Bfs.Inv (mvf moved (canF f)) s0 L' k 0) (hk : k < L'.length) : ∀ n, n ≤ 4 → Bfs.some_ (mvf moved (canF f)) L' k n <+: L →
  padW (someN (moS f) (canF f) (codeV W) ns k n) L.length = someC f L (padW ns L.length) k n
 | 0, _, _ => rfl
 | n + 1, hn4, hpre => by
  obtain ⟨h1, h2⟩ := Bfs.inv_some (mvf moved (canF f)) hi hk n (by omega)
  have hq : Pj (someN (moS f) (canF f) (codeV W) ns k n) (Bfs.some_ (mvf moved (canF f)) L' k n) := by
   have := someN_q (mo := moS f) (can := canF f) (code := codeV W) (Gd := Gd f) (s0 := s0) (code_inj hB) h0 (fun _ _ hg _ hc => gd_moS hg hc) (by rw [mvf_moS]; exact small hB h0) hp (by rw [mvf_moS]; exact hi) hk n (by omega)
   rw [mvf_moS] at this
   exact this
  rw [someN, stepN_w hB h0 hd hn hq h1 h2 (by omega) hpre, someN_w hp hi hk n (by omega) ((one_pre _ _ k n).trans hpre), someC]
theorem fromN_w : ∀ (r : Nat) (ns : List Nd) (L' : Bfs.Nodes St) (k : Nat), Pj ns L' → Bfs.Inv (mvf moved (canF f)) s0 L' k 0 → k ≤ L'.length → 1001 ≤ r + k → Bfs.from_ (mvf moved (canF f)) r L' k = L →
  padW (fromN (moS f) (canF f) (codeV W) r ns k) L.length = fromC f L (L.length - k) (padW ns L.length) k
 | 0, ns, L', k, hp, hi, hk, hr, hL => by
  have : L' = L := hL
  subst this
  omega
 | r + 1, ns, L', k, hp, hi, hk, hr, hL => by
  unfold fromN
  unfold Bfs.from_ at hL
  rw [hp.len]
  by_cases hlt : k < L'.length
  ·rw [if_pos hlt] at hL ⊢
   obtain ⟨h1, h2⟩ := Bfs.inv_some (mvf moved (canF f)) hi hlt 4 (Nat.le_refl _)
   have hpre : Bfs.some_ (mvf moved (canF f)) L' k 4 <+: L := by
    rw [← hL]
    exact from_pre _ r _ _
   have hkL : k < L.length := Nat.lt_of_lt_of_le h2 hpre.length_le
   have hq : Pj (someN (moS f) (canF f) (codeV W) ns k 4) (Bfs.some_ (mvf moved (canF f)) L' k 4) := by
    have := someN_q (mo := moS f) (can := canF f) (code := codeV W) (Gd := Gd f) (s0 := s0) (code_inj hB) h0 (fun _ _ hg _ hc => gd_moS hg hc) (by rw [mvf_moS]; exact small hB h0) hp (by rw [mvf_moS]; exact hi) hlt 4 (Nat.le_refl _)
    rw [mvf_moS] at this
    exact this
   rw [fromN_w r _ _ (k + 1) hq (Bfs.inv_next (mvf moved (canF f)) h1) (by omega) (by omega) hL, someN_w hB h0 hd hn hp hi hlt 4 (Nat.le_refl _) hpre, show L.length - k = (L.length - (k + 1)) + 1 from by omega, fromC]
  ·rw [if_neg hlt] at hL ⊢
   have hLk : L.length - k = 0 := by
    rw [← hL]
    omega
   rw [hLk, fromC]
end
theorem start_w {s0 : St} {n : Nat} (h : 0 < n) : padW [nd0 s0] n = startC n := by
 obtain ⟨m, rfl⟩ : ∃ m, n = m + 1 := ⟨n - 1, by omega⟩
 unfold padW startC
 rw [List.replicate_succ]
 rfl
theorem words_eq {f : Int → Int → Bool} {W H : Nat} (hB : Box f W H) {t : St} (h0 : Gd f t) {j : Nat} {y : Nd} (hy : (nodes f W t)[j]? = some y) : y.words = cntI f (found f t) (j : Int) := by
 have hd := found_done hB h0
 have hn : (found f t).length ≤ 1000 := Nat.le_trans (found_length hB h0) (by decide)
 have hw := fromN_w hB h0 hd hn 1001 [nd0 t] [(t, [])] 0 start_q (Bfs.inv_start _ t) (by simp) (by omega) rfl
 rw [start_w (found_pos hB h0), Nat.sub_zero] at hw
 have hl := padW_at (n := (found f t).length) hy
 have hw2 : padW (nodes f W t) (found f t).length = allC f (found f t) := hw
 rw [hw2] at hl
 unfold cntI
 rw [Int.toNat_natCast, List.getD_eq_getElem?_getD, hl]
 rfl
end Go.Proofs.YthfeiklaoljdnaaDoor.WordsN
