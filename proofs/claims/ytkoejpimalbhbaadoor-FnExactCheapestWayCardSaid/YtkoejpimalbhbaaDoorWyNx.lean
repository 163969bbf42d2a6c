/- Plain law: where the reference's nodes lead is where the program's search finds the rolled states. Conditions: codes tell good states apart. -/
import Derived.Test.YtkoejpimalbhbaaDoorSearch
import Derived.Test.YtkoejpimalbhbaaDoorPriceG
namespace Go.Proofs.YtkoejpimalbhbaaDoor.WyNx
open Go.RowKit Go.Proofs.YtkoejpimalbhbaaDoorW.PrintWords Go.Proofs.YtkoejpimalbhbaaDoorW.PrintLast Go.Proofs.YtkoejpimalbhbaaDoor.ReachR Go.Proofs.YtkoejpimalbhbaaDoor.BaseR Go.Proofs.YtkoejpimalbhbaaDoor.WyR Go.Proofs.YtkoejpimalbhbaaDoor.Search Go.Proofs.YtkoejpimalbhbaaDoor.QBs Go.Proofs.YtkoejpimalbhbaaDoor.PriceG
open Go.Proofs.YtkoejpimalbhbaaDoor.Reach (St)
open Go.Proofs.YtkoejpimalbhbaaDoor.Reached (mvf)
set_option linter.unusedVariables false
set_option linter.unusedSimpArgs false

def _root_.Go.Proofs.YtkoejpimalbhbaaDoor.WyR.Nd.nxt (x : Nd) (d : Nat) : Int := if d = 0 then x.n0 else if d = 1 then x.n1 else if d = 2 then x.n2 else x.n3
theorem next_nxt (x : Nd) {i d : Nat} (hi : i < 4) (hd : d < 4) (v : Int) : (x.next i v).nxt d = if d = i then v else x.nxt d := by
 unfold Nd.next Nd.nxt
 rcases i with _ | _ | _ | _ | i <;> rcases d with _ | _ | _ | _ | d <;> first | omega | rfl
theorem next_s (x : Nd) (i : Nat) (v : Int) : (x.next i v).s = x.s := by
 unfold Nd.next
 split
 ·rfl
 ·split
  ·rfl
  ·split <;> rfl
def Keeps (k i : Nat) (N N' : List Nd) : Prop := ∀ j z, N[j]? = some z → ∃ z', N'[j]? = some z' ∧ z'.s = z.s ∧ ∀ d, d < 4 → ¬ (j = k ∧ d = i) → z'.nxt d = z.nxt d
theorem Keeps.trans {k i : Nat} {A B C : List Nd} (h : Keeps k i A B) (g : Keeps k i B C) : Keeps k i A C := fun j z hz => by
 obtain ⟨y, h1, h2, h3⟩ := h j z hz
 obtain ⟨x, g1, g2, g3⟩ := g j y h1
 exact ⟨x, g1, g2.trans h2, fun d hd hn => (g3 d hd hn).trans (h3 d hd hn)⟩
theorem keeps_setN (N : List Nd) (k : Nat) {i : Nat} (hi : i < 4) (v : Int) : Keeps k i N (setN N k i v) := fun j z hz => by
 unfold setN
 cases hk : N[k]? with
 | none => exact ⟨z, hz, rfl, fun _ _ _ => rfl⟩
 | some x =>
  simp only
  by_cases e : k = j
  ·subst e
   rw [hk] at hz
   injection hz with hz
   subst hz
   exact ⟨x.next i v, by rw [List.getElem?_set, if_pos rfl, if_pos (List.getElem?_eq_some_iff.1 hk).1], next_s x i v, fun d hd hn => by rw [next_nxt x hi hd, if_neg (fun e => hn ⟨rfl, e⟩)]⟩
  ·exact ⟨z, by rw [List.getElem?_set, if_neg e]; exact hz, rfl, fun _ _ _ => rfl⟩
theorem keeps_grow (k i : Nat) (N : List Nd) (p : Int) (y : Nd) : Keeps k i N (grow N p y) := fun j z hz => by
 refine ⟨z, ?_, rfl, fun _ _ _ => rfl⟩
 unfold grow
 split
 ·rw [List.getElem?_append_left (List.getElem?_eq_some_iff.1 hz).1]
  exact hz
 ·exact hz
theorem keeps_addW (k i : Nat) (N : List Nd) (m a : Nat) : Keeps k i N (addW N m a) := fun j z hz => by
 unfold addW
 split
 ·next y x hy hx =>
  split
  ·by_cases e : a = j
   ·subst e
    rw [hy] at hz
    injection hz with hz
    subst hz
    exact ⟨{ y with words := IntKind.i64.wrap (y.words + x.words) }, by rw [List.getElem?_set, if_pos rfl, if_pos (List.getElem?_eq_some_iff.1 hy).1], rfl, fun _ _ _ => rfl⟩
   ·exact ⟨z, by rw [List.getElem?_set, if_neg e]; exact hz, rfl, fun _ _ _ => rfl⟩
  ·exact ⟨z, hz, rfl, fun _ _ _ => rfl⟩
 ·exact ⟨z, hz, rfl, fun _ _ _ => rfl⟩
theorem setN_at {N : List Nd} {k i : Nat} {v : Int} {z : Nd} (hz : N[k]? = some z) : (setN N k i v)[k]? = some (z.next i v) := by
 unfold setN
 rw [hz]
 simp only
 rw [List.getElem?_set, if_pos rfl, if_pos (List.getElem?_eq_some_iff.1 hz).1]
theorem plc_at : ∀ (l : List Int) (c j : Int), 0 ≤ j → ¬ plc l c j < 0 → j ≤ plc l c j ∧ l[(plc l c j - j).toNat]? = some c
 | [], c, j, hj, h => by
  unfold plc at h
  omega
 | a :: l, c, j, hj, h => by
  unfold plc at h ⊢
  by_cases e : a = c
  ·subst e
   rw [if_pos rfl]
   exact ⟨Int.le_refl _, by simp⟩
  ·rw [if_neg e] at h ⊢
   obtain ⟨h1, h2⟩ := plc_at l c (j + 1) (by omega) h
   refine ⟨by omega, ?_⟩
   have : (plc l c (j + 1) - j).toNat = (plc l c (j + 1) - (j + 1)).toNat + 1 := by omega
   rw [this, List.getElem?_cons_succ]
   exact h2
section
variable (mo : St → Nat → St) (can : St → Nat → Bool)
def NxOK (N : List Nd) (z : Nd) (d : Nat) : Prop := (can z.s d = false ∧ z.nxt d = -1) ∨ (can z.s d = true ∧ ∃ (p : Nat) (y : Nd), z.nxt d = (p : Int) ∧ N[p]? = some y ∧ y.s = mo z.s d)
def Nx (N : List Nd) (k i : Nat) : Prop := ∀ a z, N[a]? = some z → ∀ d, d < 4 → a < k ∨ (a = k ∧ d < i) → NxOK mo can N z d
end
section
variable {mo : St → Nat → St} {can : St → Nat → Bool} {code : St → Int} {Gd : St → Prop} {s0 : St} (hcode : ∀ a b, Gd a → Gd b → code a = code b → a = b) (hgd : ∀ t i, Gd t → i < 4 → can t i = true → Gd (mo t i))
theorem nx_keep {N N' : List Nd} {k i : Nat} (h : Nx mo can N k i) (hk : k < N.length) (hs : Keeps k i N N') (hnew : ∀ z, N'[k]? = some z → NxOK mo can N' z i) : Nx mo can N' k (i + 1) := fun a z hz d hd ho => by
 by_cases e : a = k ∧ d = i
 ·obtain ⟨rfl, rfl⟩ := e
  exact hnew z hz
 ·have ha : a < N.length := by omega
  obtain ⟨x, hx⟩ : ∃ x, N[a]? = some x := ⟨_, List.getElem?_eq_getElem ha⟩
  obtain ⟨z', h1, h2, h3⟩ := hs a x hx
  rw [h1] at hz
  injection hz with hz
  subst hz
  have ho' : a < k ∨ (a = k ∧ d < i) := by
   rcases ho with h | ⟨h, h'⟩
   ·exact .inl h
   ·exact .inr ⟨h, by have : d ≠ i := fun e' => e ⟨h, e'⟩; omega⟩
  rcases h a x hx d hd ho' with ⟨g1, g2⟩ | ⟨g1, p, y, g2, g3, g4⟩
  ·exact .inl ⟨by rw [h2]; exact g1, by rw [h3 d hd e]; exact g2⟩
  ·obtain ⟨y', f1, f2, f3⟩ := hs p y g3
   exact .inr ⟨by rw [h2]; exact g1, p, y', by rw [h3 d hd e]; exact g2, f1, by rw [f2, g4, h2]⟩
include hcode hgd
theorem stepN_nx {N : List Nd} {k i : Nat} (h : Nx mo can N k i) (hk : k < N.length) (hi : i < 4) (hg : ∀ y ∈ N, Gd y.s) : Nx mo can (stepN mo can code N k i) k (i + 1) := by
 obtain ⟨N1, hN1⟩ : ∃ N1, N1 = setN N k i (-1) := ⟨_, rfl⟩
 have hk1 := keeps_setN N k hi (-1)
 rw [← hN1] at hk1
 obtain ⟨x0, hx0⟩ : ∃ x, N[k]? = some x := ⟨_, List.getElem?_eq_getElem hk⟩
 have hx1 : N1[k]? = some (x0.next i (-1)) := by rw [hN1]; exact setN_at hx0
 obtain ⟨x, hx⟩ : ∃ x, x = x0.next i (-1) := ⟨_, rfl⟩
 rw [← hx] at hx1
 have hxs : x.s = x0.s := by rw [hx]; exact next_s x0 i _
 have hgx : Gd x.s := by rw [hxs]; exact hg x0 (List.mem_of_getElem? hx0)
 have hlen : N1.length = N.length := by rw [hN1]; exact setN_len N k i (-1)
 have hg1 : ∀ (j : Nat) (y : Nd), N1[j]? = some y → Gd y.s := fun j y hy => by
  have hj : j < N.length := by rw [← hlen]; exact (List.getElem?_eq_some_iff.1 hy).1
  obtain ⟨y0, hy0⟩ : ∃ y, N[j]? = some y := ⟨_, List.getElem?_eq_getElem hj⟩
  obtain ⟨y', h1, h2, _⟩ := hk1 j y0 hy0
  rw [hy] at h1
  injection h1 with h1
  subst h1
  rw [h2]
  exact hg y0 (List.mem_of_getElem? hy0)
 unfold stepN
 rw [← hN1, hx1]
 simp only
 by_cases hc : can x.s i = true
 ·rw [if_pos hc]
  obtain ⟨p, hp⟩ : ∃ p, p = plc (codes code N1) (code (mo x.s i)) 0 := ⟨_, rfl⟩
  rw [← hp]
  obtain ⟨a, ha⟩ : ∃ a, a = atOf N1 p := ⟨_, rfl⟩
  rw [← ha]
  obtain ⟨M, hM⟩ : ∃ M, M = addW (grow N1 p (newNd x (mo x.s i) k i)) k a := ⟨_, rfl⟩
  rw [← hM]
  have hkM : Keeps k i (grow N1 p (newNd x (mo x.s i) k i)) M := by rw [hM]; exact keeps_addW k i _ k a
  have hk2 : Keeps k i N1 M := (keeps_grow k i N1 p _).trans hkM
  have hk3 := keeps_setN M k hi (a : Int)
  refine nx_keep h hk (hk1.trans (hk2.trans hk3)) fun z hz => ?_
  obtain ⟨m, hm1, hm2, _⟩ := hk2 k x hx1
  rw [setN_at hm1] at hz
  injection hz with hz
  subst hz
  have hs : (m.next i (a : Int)).s = x.s := by rw [next_s, hm2]
  refine .inr ⟨by rw [hs]; exact hc, a, ?_⟩
  obtain ⟨y, hy1, hy2⟩ : ∃ y : Nd, (grow N1 p (newNd x (mo x.s i) k i))[a]? = some y ∧ y.s = mo x.s i := by
   by_cases hn : p < 0
   ·unfold grow
    rw [if_pos hn, ha]
    unfold atOf
    rw [if_pos hn]
    exact ⟨newNd x (mo x.s i) k i, by simp, rfl⟩
   ·unfold grow
    rw [if_neg hn, ha]
    unfold atOf
    rw [if_neg hn]
    obtain ⟨g1, g2⟩ := plc_at (codes code N1) (code (mo x.s i)) 0 (Int.le_refl 0) (by rw [← hp]; exact hn)
    rw [← hp, Int.sub_zero, codes, List.getElem?_map] at g2
    cases hq : N1[p.toNat]? with
    | none => rw [hq] at g2; cases g2
    | some y =>
     rw [hq, Option.map_some] at g2
     injection g2 with g2
     exact ⟨y, rfl, hcode _ _ (hg1 _ _ hq) (hgd _ _ hgx hi hc) g2⟩
  obtain ⟨y', h1, h2, _⟩ := (hkM.trans hk3) a y hy1
  exact ⟨y', by rw [next_nxt m hi hi, if_pos rfl], h1, by rw [h2, hy2, hs]⟩
 ·rw [if_neg hc]
  refine nx_keep h hk hk1 fun z hz => ?_
  rw [hx1] at hz
  injection hz with hz
  subst hz
  refine .inl ⟨by simpa using hc, ?_⟩
  rw [hx, next_nxt x0 hi hi, if_pos rfl]
variable {Iv : List Nd → Nat → Nat → Prop} (hv : Ivs mo can code Gd s0 Iv)
include hv
theorem someN_nx {N : List Nd} {k : Nat} (h : Nx mo can N k 0) (h0 : Iv N k 0) (hk : k < N.length) : ∀ n, n ≤ 4 → Nx mo can (someN mo can code N k n) k n
 | 0, _ => h
 | n + 1, hn => stepN_nx hcode hgd (someN_nx h h0 hk n (by omega)) (Nat.lt_of_lt_of_le hk (someN_len mo can code N k n)) (by omega) (hv.good _ _ _ (hv.some h0 hk n (by omega)))
theorem fromN_nx : ∀ (f : Nat) (N : List Nd) (k : Nat), k + f = 1001 → Iv N k 0 → Nx mo can N k 0 → ∀ (a : Nat) (z : Nd), (fromN mo can code f N k)[a]? = some z → ∀ d, d < 4 → NxOK mo can (fromN mo can code f N k) z d
 | 0, N, k, hk, hI, h => fun a z hz d hd => h a z hz d hd (.inl (by
   have h1 := hv.small _ _ _ hI
   have h2 := (List.getElem?_eq_some_iff.1 hz).1
   simp only [fromN] at h2
   omega))
 | f + 1, N, k, hk, hI, h => by
  unfold fromN
  by_cases hl : k < N.length
  ·rw [if_pos hl]
   exact fromN_nx f _ (k + 1) (by omega) (hv.next _ _ (hv.some hI hl 4 (Nat.le_refl _))) (fun a z hz d hd ho => someN_nx hcode hgd hv h hI hl 4 (Nat.le_refl _) a z hz d hd (by omega))
  ·rw [if_neg hl]
   exact fun a z hz d hd => h a z hz d hd (.inl (by have := (List.getElem?_eq_some_iff.1 hz).1; omega))
end
abbrev SN := S44
def nxI (z : SN) (d : Nat) : Int := if d = 0 then z.f5.f0 else if d = 1 then z.f5.f1 else if d = 2 then z.f5.f2 else z.f5.f3
def nxS (l : List SN) (a d : Nat) : Option Nat := match l[a]? with
 | none => none
 | some z => if nxI z d < 0 then none else some (nxI z d).toNat
def topS (l : List SN) (j : Nat) : Int := match l[j]? with
 | none => 0
 | some z => z.f0.f2.f0
theorem place_apart {u : St} : ∀ {l : List St} {j p : Nat}, l.Pairwise (fun a b => a ≠ b) → l[p]? = some u → Maps.place u j l = some (j + p)
 | [], j, p, ha, h => by simp at h
 | y :: l, j, p, ha, h => by
  unfold Maps.place
  cases p with
  | zero =>
   simp only [List.getElem?_cons_zero, Option.some.injEq] at h
   rw [if_pos h.symm]
   rfl
  | succ p =>
   rw [List.getElem?_cons_succ] at h
   have hne : u ≠ y := fun e => (List.pairwise_cons.1 ha).1 u (List.mem_of_getElem? h) e.symm
   rw [if_neg hne, place_apart (List.pairwise_cons.1 ha).2 h]
   congr 1
   omega
section
variable {fl : Int → Int → Bool} {W H : Nat} (hB : Box fl W H) {t : St} (h0 : Gd fl t)
include hB h0
theorem nodes_len : ((nodes fl W t).map sNd).length = (found fl t).length := by
 rw [List.length_map]
 exact (nodes_q hB h0).len
theorem top_eq (j : Nat) : topS ((nodes fl W t).map sNd) j = topL (found fl t) j := by
 have hq := (nodes_q hB h0).states
 have := congrArg (fun l => l[j]?) hq
 simp only [List.getElem?_map] at this
 unfold topS topL
 rw [List.getElem?_map]
 cases h1 : (nodes fl W t)[j]? <;> cases h2 : (found fl t)[j]? <;> rw [h1, h2] at this
 ·rfl
 ·simp at this
 ·simp at this
 ·simp only [Option.map_some, Option.some.injEq] at this
  simp only [Option.map_some]
  rw [← this]
theorem nx_eq (a d : Nat) (hd : d < 4) : nxS ((nodes fl W t).map sNd) a d = nxL fl (found fl t) a d := by
 obtain ⟨Iv, hv⟩ := nodes_ivs hB h0
 have hall := fromN_nx (mo := moS fl) (can := canF fl) (code := codeV W) (Gd := Gd fl) (code_inj hB) (fun _ _ hg _ hc => gd_moS hg hc) hv 1001 [nd0 t] 0 rfl hv.start (fun a z hz d hd ho => by omega)
 have hq := (nodes_q hB h0).states
 have hap : ((found fl t).map (·.1)).Pairwise (fun a b => a ≠ b) := List.pairwise_map.2 (found_done hB h0).apart
 have hat : ∀ j : Nat, ((nodes fl W t)[j]?).map (·.s) = ((found fl t)[j]?).map (·.1) := fun j => by
  have := congrArg (fun l => l[j]?) hq
  simpa only [List.getElem?_map] using this
 unfold nxS nxL
 rw [List.getElem?_map]
 have ha := hat a
 cases h1 : (nodes fl W t)[a]? with
 | none =>
  rw [h1] at ha
  cases h2 : (found fl t)[a]? with
  | none => rfl
  | some x => rw [h2] at ha; simp at ha
 | some z =>
  rw [h1] at ha
  cases h2 : (found fl t)[a]? with
  | none => rw [h2] at ha; simp at ha
  | some x =>
   rw [h2] at ha
   simp only [Option.map_some, Option.some.injEq] at ha
   simp only [Option.map_some]
   rcases hall a z h1 d hd with ⟨g1, g2⟩ | ⟨g1, p, y, g2, g3, g4⟩
   ·rw [show nxI (sNd z) d = -1 from g2, if_pos (by decide), if_neg (by rw [← ha, g1]; decide)]
   ·rw [show nxI (sNd z) d = (p : Int) from g2, if_neg (by omega), Int.toNat_natCast, if_pos (by rw [← ha]; exact g1)]
    have hp := hat p
    rw [show (nodes fl W t)[p]? = some y from g3, Option.map_some, g4, moS, if_pos g1, ha] at hp
    have := place_apart (u := moved x.1 d) (l := (found fl t).map (·.1)) (j := 0) (p := p) hap (by rw [List.getElem?_map]; exact hp.symm)
    rw [this, Nat.zero_add]
end
end Go.Proofs.YtkoejpimalbhbaaDoor.WyNx
