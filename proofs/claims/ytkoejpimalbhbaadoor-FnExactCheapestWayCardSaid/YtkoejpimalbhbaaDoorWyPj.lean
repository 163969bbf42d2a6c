/- Plain law: the reference's list of nodes and the program's search find the same states in the same order, as far, from the same ones. Conditions: codes tell good states apart. -/
import Derived.Test.YtkoejpimalbhbaaDoorWyR
import Derived.Test.YtkoejpimalbhbaaDoorReached
namespace Go.Proofs.YtkoejpimalbhbaaDoor.WyPj
open Go.RowKit Go.Proofs.YtkoejpimalbhbaaDoor.ReachR Go.Proofs.YtkoejpimalbhbaaDoor.WyR
open Go.Proofs.YtkoejpimalbhbaaDoor.Reach (St frm)
open Go.Proofs.YtkoejpimalbhbaaDoor.Reached (mvf good_in one_cannot one_has one_new word_small)
set_option linter.unusedVariables false
set_option linter.unusedSimpArgs false

def dirI (w : List Nat) : Int := match w.getLast? with
 | none => 0
 | some d => (d : Int)
theorem dirI_snoc (w : List Nat) (i : Nat) : dirI (w ++ [i]) = (i : Int) := by
 unfold dirI
 simp
abbrev qN (y : Nd) : St × Int × Int × Int := (y.s, y.far, y.before, y.dir)
abbrev qB (L : Bfs.Nodes St) (x : St × List Nat) : St × Int × Int × Int := (x.1, (x.2.length : Int), frm L x, dirI x.2)
def Pj (ns : List Nd) (L : Bfs.Nodes St) : Prop := ns.map qN = L.map (qB L)
theorem Pj.len {ns : List Nd} {L : Bfs.Nodes St} (h : Pj ns L) : ns.length = L.length := by
 have := congrArg List.length h
 simpa using this
theorem Pj.at {ns : List Nd} {L : Bfs.Nodes St} (h : Pj ns L) {j : Nat} {y : Nd} {x : St × List Nat} (hy : ns[j]? = some y) (hx : L[j]? = some x) : y.s = x.1 ∧ y.far = (x.2.length : Int) ∧ y.before = frm L x ∧ y.dir = dirI x.2 := by
 have := congrArg (fun l => l[j]?) h
 simp only [List.getElem?_map, hy, hx, Option.map_some, Option.some.injEq, Prod.mk.injEq] at this
 exact this
theorem Pj.states {ns : List Nd} {L : Bfs.Nodes St} (h : Pj ns L) : ns.map (·.s) = L.map (·.1) := by
 have := congrArg (List.map Prod.fst) h
 simpa [List.map_map, Function.comp_def] using this
theorem map_set {α β : Type} (f : α → β) (L : List α) (k : Nat) (x y : α) (hx : L[k]? = some x) (hs : f y = f x) : (L.set k y).map f = L.map f := by
 apply List.ext_getElem?
 intro j
 rw [List.getElem?_map, List.getElem?_map, List.getElem?_set]
 by_cases h : k = j
 ·subst h
  rw [if_pos rfl, hx]
  have hk := (List.getElem?_eq_some_iff.1 hx).1
  rw [if_pos hk]
  simp [hs]
 ·rw [if_neg h]
theorem next_q (x : Nd) (i : Nat) (v : Int) : qN (x.next i v) = qN x := by
 unfold Nd.next
 split
 ·rfl
 ·split
  ·rfl
  ·split <;> rfl
theorem setN_q (N : List Nd) (k i : Nat) (v : Int) : (setN N k i v).map qN = N.map qN := by
 unfold setN
 split
 ·next z hz => exact map_set qN N k z _ hz (next_q z i v)
 ·rfl
theorem addW_q (N : List Nd) (k a : Nat) : (addW N k a).map qN = N.map qN := by
 unfold addW
 split
 ·next y z hy hz =>
  split
  ·exact map_set qN N a y _ hy rfl
  ·rfl
 ·rfl
theorem plc_none {l : List Int} {c : Int} : ∀ {j : Int}, 0 ≤ j → (plc l c j < 0 ↔ c ∉ l) := by
 induction l with
 | nil => intro j hj; simp [plc]
 | cons a l ih =>
  intro j hj
  unfold plc
  by_cases h : a = c
  ·rw [if_pos h]
   simp [h]
   exact hj
  ·rw [if_neg h, ih (by omega)]
   simp only [List.mem_cons, not_or]
   exact ⟨fun hh => ⟨fun e => h e.symm, hh⟩, fun hh => hh.2⟩
theorem stepN_q {mo : St → Nat → St} {can : St → Nat → Bool} {code : St → Int} {Gd : St → Prop} {s0 : St} (hcode : ∀ a b, Gd a → Gd b → code a = code b → a = b) (h0 : Gd s0) (hgd : ∀ t i, Gd t → i < 4 → can t i = true → Gd (mo t i))
  {ns : List Nd} {L : Bfs.Nodes St} {k i : Nat} (hp : Pj ns L) (hi : Bfs.Inv (mvf mo can) s0 L k i) (hk : k < L.length) (hi4 : i < 4) (hsm : L.length ≤ 1000) : Pj (stepN mo can code ns k i) (Bfs.one (mvf mo can) L k i) := by
 have hkn : k < ns.length := by rw [hp.len]; exact hk
 obtain ⟨x, hx⟩ : ∃ x, L[k]? = some x := ⟨_, List.getElem?_eq_getElem hk⟩
 obtain ⟨ns1, hns1⟩ : ∃ ns1, ns1 = setN ns k i (-1) := ⟨_, rfl⟩
 have hq1 : ns1.map qN = L.map (qB L) := by rw [hns1, setN_q]; exact hp
 have hp1 : Pj ns1 L := hq1
 obtain ⟨y, hy⟩ : ∃ y, ns1[k]? = some y := ⟨_, List.getElem?_eq_getElem (by rw [hp1.len]; exact hk)⟩
 obtain ⟨e1, e2, e3, e4⟩ := hp1.at hy hx
 have hall := good_in h0 hgd hi
 have hgx : Gd x.1 := hall x.1 x.2 (List.mem_of_getElem? hx)
 unfold stepN
 rw [← hns1, hy]
 simp only
 by_cases hc : can y.s i = true
 ·rw [if_pos hc]
  have hcx : can x.1 i = true := by rw [← e1]; exact hc
  have hgu : Gd (mo y.s i) := by rw [e1]; exact hgd _ _ hgx hi4 hcx
  have hcs : codes code ns1 = L.map (fun x => code x.1) := by
   have := congrArg (List.map code) hp1.states
   simpa [codes, List.map_map, Function.comp_def] using this
  have hmem : code (mo y.s i) ∈ codes code ns1 ↔ mo x.1 i ∈ L.map (·.1) := by
   rw [hcs, e1]
   constructor
   ·intro h
    obtain ⟨z, hz, he⟩ := List.mem_map.1 h
    have hgz : Gd z.1 := hall z.1 z.2 hz
    have := hcode _ _ hgz (by rw [← e1]; exact hgu) he
    exact List.mem_map.2 ⟨z, hz, this⟩
   ·intro h
    obtain ⟨z, hz, he⟩ := List.mem_map.1 h
    exact List.mem_map.2 ⟨z, hz, by rw [he]⟩
  obtain ⟨p, hpz⟩ : ∃ p, p = plc (codes code ns1) (code (mo y.s i)) 0 := ⟨_, rfl⟩
  have hpn := plc_none (l := codes code ns1) (c := code (mo y.s i)) (j := 0) (Int.le_refl 0)
  rw [← hpz] at hpn ⊢
  unfold Pj
  rw [setN_q, addW_q]
  by_cases hin : mo x.1 i ∈ L.map (·.1)
  ·have hn : ¬ p < 0 := fun h => hpn.1 h (hmem.2 hin)
   rw [grow, if_neg hn, one_has hx hcx hin]
   exact hp1
  ·have hn : p < 0 := hpn.2 (fun h => hin (hmem.1 h))
   have hf := word_small hi k x hx
   rw [grow, if_pos hn, one_new hx hcx hin]
   have hfr := Reach.frms_new (mvf mo can) hi (s := x.1) (w := x.2) (t := mo x.1 i) (k := k) (i := i) hx
   rw [List.map_append, List.map_cons, List.map_nil] at hfr ⊢
   have hw : IntKind.i64.wrap (y.far + 1) = ((x.2 ++ [i]).length : Int) := by
    rw [e2, IntWalk.i64_in _ (by omega), List.length_append, List.length_singleton]
    omega
   obtain ⟨h1, h2⟩ := List.append_inj hfr (by simp)
   rw [List.map_append, List.map_cons, List.map_nil]
   congr 1
   ·rw [hq1]
    apply List.map_congr_left
    intro z hz
    have : frm (L ++ [(mo x.1 i, x.2 ++ [i])]) z = frm L z := by
     obtain ⟨j, hj⟩ := List.mem_iff_getElem?.1 hz
     have hh := congrArg (fun l => l[j]?) h1
     simp only [List.getElem?_map, hj, Option.map_some, Option.some.injEq] at hh
     exact hh
    simp only [qB, this]
   ·have h3 := List.cons.inj h2
    simp only [qN, qB, newNd, e1, hw, h3.1, dirI_snoc]
 ·rw [if_neg hc]
  have hcx : can x.1 i = false := by
   rw [← e1]
   simpa using hc
  rw [one_cannot hx hcx]
  exact hp1
section
variable {mo : St → Nat → St} {can : St → Nat → Bool} {code : St → Int} {Gd : St → Prop} {s0 : St} (hcode : ∀ a b, Gd a → Gd b → code a = code b → a = b) (h0 : Gd s0) (hgd : ∀ t i, Gd t → i < 4 → can t i = true → Gd (mo t i)) (hsm : ∀ L k i, Bfs.Inv (mvf mo can) s0 L k i → L.length ≤ 1000)
include hcode h0 hgd hsm
theorem someN_q {ns : List Nd} {L : Bfs.Nodes St} {k : Nat} (hp : Pj ns L) (hi : Bfs.Inv (mvf mo can) s0 L k 0) (hk : k < L.length) : ∀ n, n ≤ 4 → Pj (someN mo can code ns k n) (Bfs.some_ (mvf mo can) L k n)
 | 0, _ => hp
 | n + 1, hn => by
  obtain ⟨h1, h2⟩ := Bfs.inv_some (mvf mo can) hi hk n (by omega)
  exact stepN_q hcode h0 hgd (someN_q hp hi hk n (by omega)) h1 h2 (by omega) (hsm _ _ _ h1)
theorem fromN_q : ∀ (f : Nat) (ns : List Nd) (L : Bfs.Nodes St) (k : Nat), Pj ns L → Bfs.Inv (mvf mo can) s0 L k 0 → Pj (fromN mo can code f ns k) (Bfs.from_ (mvf mo can) f L k)
 | 0, ns, L, k, hp, hi => hp
 | f + 1, ns, L, k, hp, hi => by
  unfold fromN Bfs.from_
  rw [hp.len]
  by_cases hk : k < L.length
  ·rw [if_pos hk, if_pos hk]
   obtain ⟨h1, h2⟩ := Bfs.inv_some (mvf mo can) hi hk 4 (Nat.le_refl _)
   exact fromN_q f _ _ _ (someN_q hcode h0 hgd hsm hp hi hk 4 (Nat.le_refl _)) (Bfs.inv_next (mvf mo can) h1)
  ·rw [if_neg hk, if_neg hk]
   exact hp
omit hcode h0 hgd hsm in
theorem start_q : Pj [nd0 s0] [(s0, [])] := by
 unfold Pj
 simp [nd0, frm, dirI, qN, qB]
theorem search_q : Pj (fromN mo can code 1001 [nd0 s0] 0) (Bfs.search (mvf mo can) 1001 s0) := fromN_q hcode h0 hgd hsm 1001 _ _ 0 start_q (Bfs.inv_start _ s0)
theorem ivs : Ivs mo can code Gd s0 (fun ns k i => ∃ L, Bfs.Inv (mvf mo can) s0 L k i ∧ Pj ns L) where
 start := ⟨_, Bfs.inv_start _ s0, start_q⟩
 step := fun ns k i ⟨L, hi, hp⟩ hk hi4 => by
  have hkl : k < L.length := by rw [← hp.len]; exact hk
  exact ⟨_, (Bfs.inv_one (mvf mo can) hi hkl hi4).1, stepN_q hcode h0 hgd hp hi hkl hi4 (hsm _ _ _ hi)⟩
 next := fun ns k ⟨L, hi, hp⟩ => ⟨L, Bfs.inv_next (mvf mo can) hi, hp⟩
 small := fun ns k i ⟨L, hi, hp⟩ => by rw [hp.len]; exact hsm _ _ _ hi
 good := fun ns k i ⟨L, hi, hp⟩ y hy => by
  have : y.s ∈ L.map (·.1) := by rw [← hp.states]; exact List.mem_map.2 ⟨y, hy, rfl⟩
  obtain ⟨x, hx, he⟩ := List.mem_map.1 this
  rw [← he]
  exact good_in h0 hgd hi x.1 x.2 hx
end
end Go.Proofs.YtkoejpimalbhbaaDoor.WyPj
