/- Plain law: a breadth-first search that keeps, for each state, the word by which it was found.
   States in the order found; words in the order 'shorter first, then by directions'. No program in sight. -/
namespace Go.Proofs.YtfcifidjjbknaaaDoor.Bfs

def lex : List Nat → List Nat → Prop
  | [], [] => False
  | [], _ :: _ => True
  | _ :: _, [] => False
  | a :: v, b :: w => a < b ∨ (a = b ∧ lex v w)
def lt (v w : List Nat) : Prop := v.length < w.length ∨ (v.length = w.length ∧ lex v w)
def le (v w : List Nat) : Prop := v = w ∨ lt v w

theorem lex_irrefl : ∀ v, ¬ lex v v
  | [] => id
  | a :: v => fun h => by
    rcases h with h | ⟨_, h⟩
    · omega
    · exact lex_irrefl v h
theorem lex_trans : ∀ {u v w}, lex u v → lex v w → lex u w
  | [], [], _, h, _ => h.elim
  | [], _ :: _, [], _, h => h.elim
  | [], _ :: _, _ :: _, _, _ => trivial
  | _ :: _, [], _, h, _ => h.elim
  | _ :: _, _ :: _, [], _, h => h.elim
  | a :: u, b :: v, c :: w, h, k => by
    rcases h with h | ⟨rfl, h⟩
    · rcases k with k | ⟨rfl, k⟩
      · exact .inl (by omega)
      · exact .inl h
    · rcases k with k | ⟨rfl, k⟩
      · exact .inl k
      · exact .inr ⟨rfl, lex_trans h k⟩
theorem lt_irrefl (v : List Nat) : ¬ lt v v := fun h => by
  rcases h with h | ⟨_, h⟩
  · omega
  · exact lex_irrefl v h
theorem lt_trans {u v w : List Nat} (h : lt u v) (k : lt v w) : lt u w := by
  rcases h with h | ⟨h1, h2⟩
  · rcases k with k | ⟨k1, k2⟩
    · exact .inl (by omega)
    · exact .inl (by omega)
  · rcases k with k | ⟨k1, k2⟩
    · exact .inl (by omega)
    · exact .inr ⟨by omega, lex_trans h2 k2⟩
theorem le_refl (v : List Nat) : le v v := .inl rfl
theorem le_trans {u v w : List Nat} (h : le u v) (k : le v w) : le u w := by
  rcases h with rfl | h
  · exact k
  · rcases k with rfl | k
    · exact .inr h
    · exact .inr (lt_trans h k)
theorem le_antisymm {u v : List Nat} (h : le u v) (k : le v u) : u = v := by
  rcases h with h | h
  · exact h
  · rcases k with k | k
    · exact k.symm
    · exact (lt_irrefl _ (lt_trans h k)).elim
theorem not_lt_of_le {u v : List Nat} (h : le u v) : ¬ lt v u := fun k => by
  rcases h with rfl | h
  · exact lt_irrefl _ k
  · exact lt_irrefl _ (lt_trans h k)
theorem nil_le (w : List Nat) : le [] w := by
  cases w with
  | nil => exact .inl rfl
  | cons a w => exact .inr (.inl (by simp))
theorem lex_snoc : ∀ {v w : List Nat} (a b : Nat), v.length = w.length → lex v w → lex (v ++ [a]) (w ++ [b])
  | [], [], _, _, _, h => h.elim
  | [], _ :: _, _, _, h, _ => by simp at h
  | _ :: _, [], _, _, h, _ => by simp at h
  | c :: v, d :: w, a, b, hl, h => by
    rcases h with h | ⟨rfl, h⟩
    · exact .inl h
    · exact .inr ⟨rfl, lex_snoc a b (by simpa using hl) h⟩
theorem lex_last : ∀ (v : List Nat) {a b : Nat}, a < b → lex (v ++ [a]) (v ++ [b])
  | [], _, _, h => .inl h
  | _ :: v, _, _, h => .inr ⟨rfl, lex_last v h⟩
theorem snoc_lt {v w : List Nat} (a b : Nat) (h : lt v w) : lt (v ++ [a]) (w ++ [b]) := by
  rcases h with h | ⟨h, k⟩
  · exact .inl (by simp; omega)
  · exact .inr ⟨by simp; omega, lex_snoc a b h k⟩
theorem snoc_last (v : List Nat) {a b : Nat} (h : a < b) : lt (v ++ [a]) (v ++ [b]) := .inr ⟨by simp, lex_last v h⟩
theorem snoc_le {v w : List Nat} (a : Nat) (h : le v w) : le (v ++ [a]) (w ++ [a]) := by
  rcases h with rfl | h
  · exact .inl rfl
  · exact .inr (snoc_lt a a h)

section
variable {S : Type} (mv : S → Nat → Option S)

def run (s : S) : List Nat → Option S
  | [] => some s
  | d :: w => (mv s d).bind fun t => run t w
theorem run_append (s : S) : ∀ (v w : List Nat), run mv s (v ++ w) = (run mv s v).bind fun t => run mv t w
  | [], w => rfl
  | d :: v, w => by
    simp only [List.cons_append, run]
    cases mv s d with
    | none => rfl
    | some t => simpa using run_append t v w
theorem run_snoc (s : S) (v : List Nat) (d : Nat) : run mv s (v ++ [d]) = (run mv s v).bind fun t => mv t d := by
  rw [run_append]
  congr 1
  funext t
  simp only [run]
  cases mv t d <;> rfl

abbrev Nodes (S : Type) := List (S × List Nat)
def has [DecidableEq S] (L : Nodes S) (t : S) : Bool := L.any fun x => decide (x.1 = t)
theorem has_iff [DecidableEq S] {L : Nodes S} {t : S} : has L t = true ↔ ∃ w, (t, w) ∈ L := by
  simp only [has, List.any_eq_true, decide_eq_true_eq]
  constructor
  · rintro ⟨⟨a, w⟩, h, rfl⟩
    exact ⟨w, h⟩
  · rintro ⟨w, h⟩
    exact ⟨_, h, rfl⟩
def one [DecidableEq S] (L : Nodes S) (k d : Nat) : Nodes S :=
  match L[k]? with
  | none => L
  | some (s, w) => match mv s d with
    | none => L
    | some t => if has L t = true then L else L ++ [(t, w ++ [d])]
def some_ [DecidableEq S] (L : Nodes S) (k : Nat) : Nat → Nodes S
  | 0 => L
  | n + 1 => one mv (some_ L k n) k n
def from_ [DecidableEq S] : Nat → Nodes S → Nat → Nodes S
  | 0, L, _ => L
  | fuel + 1, L, k => if k < L.length then from_ fuel (some_ mv L k 4) (k + 1) else L
def search [DecidableEq S] (fuel : Nat) (s : S) : Nodes S := from_ mv fuel [(s, [])] 0

/-- What holds of the list when k states have been done, and i directions of the k-th. -/
structure Inv (s0 : S) (L : Nodes S) (k i : Nat) : Prop where
  root : L[0]? = some (s0, [])
  leads : ∀ s w, (s, w) ∈ L → run mv s0 w = some s
  apart : L.Pairwise fun x y => x.1 ≠ y.1
  rising : L.Pairwise fun x y => lt x.2 y.2
  small : ∀ s w, (s, w) ∈ L → ∀ d ∈ w, d < 4
  born : ∀ j, 0 < j → ∀ x, L[j]? = some x → ∃ p d y, L[p]? = some y ∧ (p < k ∨ p = k ∧ d < i) ∧ p < j ∧ d < 4 ∧ mv y.1 d = some x.1 ∧ x.2 = y.2 ++ [d]
  shut : ∀ p d s w t, L[p]? = some (s, w) → (p < k ∨ p = k ∧ d < i) → d < 4 → mv s d = some t → ∃ v, (t, v) ∈ L ∧ le v (w ++ [d])

theorem rising_at {L : Nodes S} (h : L.Pairwise fun x y => lt x.2 y.2) {i j : Nat} {x y : S × List Nat} (hi : L[i]? = some x) (hj : L[j]? = some y) (hij : i < j) : lt x.2 y.2 := by
  obtain ⟨h1, rfl⟩ := List.getElem?_eq_some_iff.1 hi
  obtain ⟨h2, rfl⟩ := List.getElem?_eq_some_iff.1 hj
  exact List.pairwise_iff_getElem.1 h i j h1 h2 hij

theorem inv_start (s0 : S) : Inv mv s0 [(s0, [])] 0 0 where
  root := rfl
  leads := by
    intro s w h
    simp at h
    obtain ⟨rfl, rfl⟩ := h
    rfl
  apart := by simp
  rising := by simp
  small := by
    intro s w h
    simp at h
    obtain ⟨rfl, rfl⟩ := h
    simp
  born := by
    intro j hj x hx
    obtain ⟨h, _⟩ := List.getElem?_eq_some_iff.1 hx
    simp at h
    omega
  shut := by
    intro p d s w t _ h
    omega

theorem inv_one [DecidableEq S] {s0 : S} {L : Nodes S} {k i : Nat} (h : Inv mv s0 L k i) (hk : k < L.length) (hi : i < 4) : Inv mv s0 (one mv L k i) k (i + 1) ∧ k < (one mv L k i).length := by
  obtain ⟨⟨s, w⟩, hs⟩ : ∃ x, L[k]? = some x := ⟨_, List.getElem?_eq_getElem hk⟩
  have hsm : (s, w) ∈ L := List.mem_of_getElem? hs
  -- what is alike where nothing new is found
  have keep : (∀ t, mv s i = some t → ∃ v, (t, v) ∈ L ∧ le v (w ++ [i])) → Inv mv s0 L k (i + 1) := fun hn =>
    { h with
      born := fun j hj x hx => by
        obtain ⟨p, d, y, h1, h2, h3⟩ := h.born j hj x hx
        exact ⟨p, d, y, h1, by omega, h3⟩
      shut := fun p d s' w' t hp hd h4 hm => by
        by_cases e : p = k ∧ d = i
        · obtain ⟨rfl, rfl⟩ := e
          rw [hs] at hp
          injection hp with hp
          injection hp with h1 h2
          subst h1 h2
          exact hn t hm
        · exact h.shut p d s' w' t hp (by omega) h4 hm }
  unfold one
  rw [hs]
  simp only
  cases hm : mv s i with
  | none =>
    simp only
    exact ⟨keep (fun t ht => by rw [hm] at ht; cases ht), hk⟩
  | some t =>
    simp only
    by_cases hh : has L t = true
    · rw [if_pos hh]
      refine ⟨keep (fun t' ht => ?_), hk⟩
      rw [hm] at ht
      injection ht with ht
      subst ht
      obtain ⟨v, hv⟩ := has_iff.1 hh
      refine ⟨v, hv, ?_⟩
      obtain ⟨j, hj⟩ := List.mem_iff_getElem?.1 hv
      by_cases h0 : j = 0
      · subst h0
        rw [h.root] at hj
        injection hj with hj
        injection hj with _ h2
        subst h2
        exact nil_le _
      · obtain ⟨p, d, y, h1, h2, h3, h4, h5, h6⟩ := h.born j (by omega) _ hj
        simp only at h6
        rw [h6]
        rcases h2 with h2 | ⟨h2, h2'⟩
        · exact .inr (snoc_lt d i (rising_at h.rising h1 hs h2))
        · subst h2
          rw [hs] at h1
          injection h1 with h1
          subst h1
          exact .inr (snoc_last _ h2')
    · rw [if_neg hh]
      refine ⟨?_, by simp; omega⟩
      have hnew : ∀ v, (t, v) ∉ L := fun v hv => hh (has_iff.2 ⟨v, hv⟩)
      have hlast : ∀ x ∈ L, lt x.2 (w ++ [i]) := by
        intro x hx
        obtain ⟨j, hj⟩ := List.mem_iff_getElem?.1 hx
        by_cases h0 : j = 0
        · subst h0
          rw [h.root] at hj
          injection hj with hj
          subst hj
          exact .inl (by simp)
        · obtain ⟨p, d, y, h1, h2, h3, h4, h5, h6⟩ := h.born j (by omega) _ hj
          rw [h6]
          rcases h2 with h2 | ⟨h2, h2'⟩
          · exact snoc_lt d i (rising_at h.rising h1 hs h2)
          · subst h2
            rw [hs] at h1
            injection h1 with h1
            subst h1
            exact snoc_last _ h2'
      have hold : ∀ {j x}, L[j]? = some x → (L ++ [(t, w ++ [i])])[j]? = some x := fun {j x} hj => by
        obtain ⟨h1, _⟩ := List.getElem?_eq_some_iff.1 hj
        rw [List.getElem?_append_left h1, hj]
      have hat : ∀ {j x}, (L ++ [(t, w ++ [i])])[j]? = some x → L[j]? = some x ∨ (j = L.length ∧ x = (t, w ++ [i])) := fun {j x} hj => by
        by_cases e : j < L.length
        · rw [List.getElem?_append_left e] at hj
          exact .inl hj
        · obtain ⟨h1, h2⟩ := List.getElem?_eq_some_iff.1 hj
          simp at h1
          have : j = L.length := by omega
          subst this
          exact .inr ⟨rfl, by simpa using h2.symm⟩
      refine { root := hold h.root, leads := ?_, apart := ?_, rising := ?_, small := ?_, born := ?_, shut := ?_ }
      · intro s' w' hx
        rw [List.mem_append, List.mem_singleton] at hx
        rcases hx with hx | hx
        · exact h.leads _ _ hx
        · injection hx with h1 h2
          subst h1 h2
          rw [run_snoc, h.leads _ _ hsm]
          exact hm
      · rw [List.pairwise_append]
        refine ⟨h.apart, by simp, fun x hx y hy => ?_⟩
        rw [List.mem_singleton] at hy
        subst hy
        intro e
        exact hnew x.2 (by have e' : x.1 = t := e
                           rw [← e']; exact hx)
      · rw [List.pairwise_append]
        refine ⟨h.rising, by simp, fun x hx y hy => ?_⟩
        rw [List.mem_singleton] at hy
        subst hy
        exact hlast x hx
      · intro s' w' hx
        rw [List.mem_append, List.mem_singleton] at hx
        rcases hx with hx | hx
        · exact h.small _ _ hx
        · injection hx with h1 h2
          subst h1 h2
          intro d hd
          rw [List.mem_append, List.mem_singleton] at hd
          rcases hd with hd | rfl
          · exact h.small _ _ hsm d hd
          · exact hi
      · intro j hj x hx
        rcases hat hx with hx | ⟨rfl, rfl⟩
        · obtain ⟨p, d, y, h1, h2, h3⟩ := h.born j hj x hx
          exact ⟨p, d, y, hold h1, by omega, h3⟩
        · exact ⟨k, i, (s, w), hold hs, by omega, hk, hi, hm, rfl⟩
      · intro p d s' w' t' hp hd h4 hm'
        rcases hat hp with hp | ⟨rfl, _⟩
        · by_cases e : p = k ∧ d = i
          · obtain ⟨rfl, rfl⟩ := e
            rw [List.getElem?_append_left hk, hs] at hp
            injection hp with hp
            injection hp with h1 h2
            subst h1 h2
            rw [hm] at hm'
            injection hm' with hm'
            subst hm'
            exact ⟨w ++ [d], by simp, le_refl _⟩
          · obtain ⟨v, hv, hle⟩ := h.shut p d s' w' t' hp (by omega) h4 hm'
            exact ⟨v, by simp [hv], hle⟩
        · omega

theorem inv_some [DecidableEq S] {s0 : S} {L : Nodes S} {k : Nat} (h : Inv mv s0 L k 0) (hk : k < L.length) : ∀ n, n ≤ 4 → Inv mv s0 (some_ mv L k n) k n ∧ k < (some_ mv L k n).length
  | 0, _ => ⟨h, hk⟩
  | n + 1, hn => by
    obtain ⟨h1, h2⟩ := inv_some h hk n (by omega)
    exact inv_one mv h1 h2 (by omega)
theorem inv_next {s0 : S} {L : Nodes S} {k : Nat} (h : Inv mv s0 L k 4) : Inv mv s0 L (k + 1) 0 :=
  { h with
    born := fun j hj x hx => by
      obtain ⟨p, d, y, h1, h2, h3⟩ := h.born j hj x hx
      exact ⟨p, d, y, h1, by omega, h3⟩
    shut := fun p d s w t hp hd h4 hm => h.shut p d s w t hp (by omega) h4 hm }

/-- The search is done: every state that a word leads to is there, by a word that is no later. -/
structure Done (s0 : S) (L : Nodes S) : Prop where
  leads : ∀ s w, (s, w) ∈ L → run mv s0 w = some s
  apart : L.Pairwise fun x y => x.1 ≠ y.1
  rising : L.Pairwise fun x y => lt x.2 y.2
  small : ∀ s w, (s, w) ∈ L → ∀ d ∈ w, d < 4
  root : L[0]? = some (s0, [])
  born : ∀ j, 0 < j → ∀ x, L[j]? = some x → ∃ p d y, L[p]? = some y ∧ p < j ∧ d < 4 ∧ mv y.1 d = some x.1 ∧ x.2 = y.2 ++ [d]
  shut : ∀ s w, (s, w) ∈ L → ∀ d t, d < 4 → mv s d = some t → ∃ v, (t, v) ∈ L ∧ le v (w ++ [d])

theorem done_of_inv {s0 : S} {L : Nodes S} (h : Inv mv s0 L L.length 0) : Done mv s0 L where
  leads := h.leads
  apart := h.apart
  rising := h.rising
  small := h.small
  root := h.root
  born := fun j hj x hx => by
    obtain ⟨p, d, y, h1, _, h3⟩ := h.born j hj x hx
    exact ⟨p, d, y, h1, h3⟩
  shut := fun s w hm d t hd hmv => by
    obtain ⟨j, hj⟩ := List.mem_iff_getElem?.1 hm
    obtain ⟨h1, _⟩ := List.getElem?_eq_some_iff.1 hj
    exact h.shut j d s w t hj (.inl h1) hd hmv

theorem done_least {s0 : S} {L : Nodes S} (h : Done mv s0 L) : ∀ (n : Nat) (u : List Nat), u.length = n → (∀ d ∈ u, d < 4) → ∀ t, run mv s0 u = some t → ∃ w, (t, w) ∈ L ∧ le w u := by
  intro n
  induction n with
  | zero =>
    intro u hu _ t ht
    have : u = [] := List.length_eq_zero_iff.1 hu
    subst this
    simp only [run, Option.some.injEq] at ht
    subst ht
    exact ⟨[], List.mem_of_getElem? h.root, le_refl _⟩
  | succ n ih =>
    intro u hu hd t ht
    obtain ⟨v, d, rfl⟩ : ∃ v d, u = v ++ [d] := by
      exact ⟨u.dropLast, u.getLast (by intro e; simp [e] at hu), (List.dropLast_concat_getLast _).symm⟩
    rw [run_snoc] at ht
    cases hv : run mv s0 v with
    | none => rw [hv] at ht; cases ht
    | some s =>
      rw [hv] at ht
      simp only [Option.bind_some] at ht
      obtain ⟨w, hw, hle⟩ := ih v (by simpa using hu) (fun e he => hd e (by simp [he])) s hv
      obtain ⟨x, hx, hxl⟩ := h.shut s w hw d t (hd d (by simp)) ht
      exact ⟨x, hx, le_trans hxl (snoc_le d hle)⟩

theorem length_le_of_apart [DecidableEq S] : ∀ (L U : List S), L.Pairwise (fun x y => x ≠ y) → (∀ x ∈ L, x ∈ U) → L.length ≤ U.length
  | [], _, _, _ => by simp
  | x :: L, U, h, hs => by
    obtain ⟨h1, h2⟩ := List.pairwise_cons.1 h
    have hx : x ∈ U := hs x (by simp)
    have hrec := length_le_of_apart L (U.erase x) h2 (fun y hy => (List.mem_erase_of_ne (fun e => h1 y hy e.symm)).2 (hs y (by simp [hy])))
    have := List.length_erase_of_mem hx
    have : 0 < U.length := List.length_pos_of_mem hx
    simp only [List.length_cons]
    omega

theorem inv_length [DecidableEq S] {s0 : S} {L : Nodes S} {k i : Nat} (h : Inv mv s0 L k i) (U : List S) (hU : ∀ w s, (∀ d ∈ w, d < 4) → run mv s0 w = some s → s ∈ U) : L.length ≤ U.length := by
  have hp : (L.map Prod.fst).Pairwise (fun x y => x ≠ y) := List.pairwise_map.2 h.apart
  have := length_le_of_apart (L.map Prod.fst) U hp (fun s hs => by
    obtain ⟨⟨a, w⟩, hm, rfl⟩ := List.mem_map.1 hs
    exact hU w _ (h.small _ _ hm) (h.leads _ _ hm))
  simpa using this

theorem from_done [DecidableEq S] {s0 : S} (U : List S) (hU : ∀ w s, (∀ d ∈ w, d < 4) → run mv s0 w = some s → s ∈ U) : ∀ (fuel : Nat) (L : Nodes S) (k : Nat), Inv mv s0 L k 0 → k ≤ L.length → U.length < fuel + k → Done mv s0 (from_ mv fuel L k)
  | 0, L, k, h, hk, hf => by
    have := inv_length mv h U hU
    omega
  | fuel + 1, L, k, h, hk, hf => by
    unfold from_
    by_cases e : k < L.length
    · rw [if_pos e]
      obtain ⟨h1, h2⟩ := inv_some mv h e 4 (Nat.le_refl _)
      exact from_done U hU fuel _ _ (inv_next mv h1) (by omega) (by omega)
    · rw [if_neg e]
      obtain rfl : k = L.length := by omega
      exact done_of_inv mv h

theorem search_done [DecidableEq S] (s0 : S) (U : List S) (hU : ∀ w s, (∀ d ∈ w, d < 4) → run mv s0 w = some s → s ∈ U) (fuel : Nat) (hf : U.length < fuel) : Done mv s0 (search mv fuel s0) :=
  from_done mv U hU fuel _ 0 (inv_start mv s0) (by simp) (by simpa using hf)
end
end Go.Proofs.YtfcifidjjbknaaaDoor.Bfs
