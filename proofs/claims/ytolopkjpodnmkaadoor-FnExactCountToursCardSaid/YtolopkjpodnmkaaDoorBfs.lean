/- Plain law: a breadth-first search that keeps, for each state, the word by which it was found.
   States in the order found; words in the order 'shorter first, then by directions'. No program in sight. -/
namespace Go.Proofs.YtolopkjpodnmkaaDoor.Bfs

def lex : List Nat → List Nat → Prop
  | [], [] => False
  | [], _ :: _ => True
  | _ :: _, [] => False
  | a :: v, b :: w => a < b ∨ (a = b ∧ lex v w)
def lt (v w : List Nat) : Prop := v.length < w.length ∨ (v.length = w.length ∧ lex v w)
def le (v w : List Nat) : Prop := v = w ∨ lt v w

theorem lex_irrefl : ∀ v, ¬ lex v v
  | [] => id
  | a :: v => fun h => by
    rcases h with h | ⟨_, h⟩
    · omega
    · exact lex_irrefl v h
theorem lex_trans : ∀ {u v w}, lex u v → lex v w → lex u w
  | [], [], _, h, _ => h.elim
  | [], _ :: _, [], _, h => h.elim
  | [], _ :: _, _ :: _, _, _ => trivial
  | _ :: _, [], _, h, _ => h.elim
  | _ :: _, _ :: _, [], _, h => h.elim
  | a :: u, b :: v, c :: w, h, k => by
    rcases h with h | ⟨rfl, h⟩
    · rcases k with k | ⟨rfl, k⟩
      · exact .inl (by omega)
      · exact .inl h
    · rcases k with k | ⟨rfl, k⟩
      · exact .inl k
      · exact .inr ⟨rfl, lex_trans h k⟩
theorem lt_irrefl (v : List Nat) : ¬ lt v v := fun h => by
  rcases h with h | ⟨_, h⟩
  · omega
  · exact lex_irrefl v h
theorem lt_trans {u v w : List Nat} (h : lt u v) (k : lt v w) : lt u w := by
  rcases h with h | ⟨h1, h2⟩
  · rcases k with k | ⟨k1, k2⟩
    · exact .inl (by omega)
    · exact .inl (by omega)
  · rcases k with k | ⟨k1, k2⟩
    · exact .inl (by omega)
    · exact .inr ⟨by omega, lex_trans h2 k2⟩
theorem le_refl (v : List Nat) : le v v := .inl rfl
theorem le_trans {u v w : List Nat} (h : le u v) (k : le v w) : le u w := by
  rcases h with rfl | h
  · exact k
  · rcases k with rfl | k
    · exact .inr h
    · exact .inr (lt_trans h k)

section
variable {S : Type} (mv : S → Nat → Option S)

def run (s : S) : List Nat → Option S
  | [] => some s
  | d :: w => (mv s d).bind fun t => run t w

abbrev Nodes (S : Type) := List (S × List Nat)
def has [DecidableEq S] (L : Nodes S) (t : S) : Bool := L.any fun x => decide (x.1 = t)
theorem has_iff [DecidableEq S] {L : Nodes S} {t : S} : has L t = true ↔ ∃ w, (t, w) ∈ L := by
  simp only [has, List.any_eq_true, decide_eq_true_eq]
  constructor
  · rintro ⟨⟨a, w⟩, h, rfl⟩
    exact ⟨w, h⟩
  · rintro ⟨w, h⟩
    exact ⟨_, h, rfl⟩
def one [DecidableEq S] (L : Nodes S) (k d : Nat) : Nodes S :=
  match L[k]? with
  | none => L
  | some (s, w) => match mv s d with
    | none => L
    | some t => if has L t = true then L else L ++ [(t, w ++ [d])]
def some_ [DecidableEq S] (L : Nodes S) (k : Nat) : Nat → Nodes S
  | 0 => L
  | n + 1 => one mv (some_ L k n) k n
def from_ [DecidableEq S] : Nat → Nodes S → Nat → Nodes S
  | 0, L, _ => L
  | fuel + 1, L, k => if k < L.length then from_ fuel (some_ mv L k 4) (k + 1) else L
def search [DecidableEq S] (fuel : Nat) (s : S) : Nodes S := from_ mv fuel [(s, [])] 0

/-- What holds of the list when k states have been done, and i directions of the k-th. -/
structure Inv (s0 : S) (L : Nodes S) (k i : Nat) : Prop where
  root : L[0]? = some (s0, [])
  leads : ∀ s w, (s, w) ∈ L → run mv s0 w = some s
  apart : L.Pairwise fun x y => x.1 ≠ y.1
  rising : L.Pairwise fun x y => lt x.2 y.2
  small : ∀ s w, (s, w) ∈ L → ∀ d ∈ w, d < 4
  born : ∀ j, 0 < j → ∀ x, L[j]? = some x → ∃ p d y, L[p]? = some y ∧ (p < k ∨ p = k ∧ d < i) ∧ p < j ∧ d < 4 ∧ mv y.1 d = some x.1 ∧ x.2 = y.2 ++ [d]
  shut : ∀ p d s w t, L[p]? = some (s, w) → (p < k ∨ p = k ∧ d < i) → d < 4 → mv s d = some t → ∃ v, (t, v) ∈ L ∧ le v (w ++ [d])





/-- The search is done: every state that a word leads to is there, by a word that is no later. -/
structure Done (s0 : S) (L : Nodes S) : Prop where
  leads : ∀ s w, (s, w) ∈ L → run mv s0 w = some s
  apart : L.Pairwise fun x y => x.1 ≠ y.1
  rising : L.Pairwise fun x y => lt x.2 y.2
  small : ∀ s w, (s, w) ∈ L → ∀ d ∈ w, d < 4
  root : L[0]? = some (s0, [])
  born : ∀ j, 0 < j → ∀ x, L[j]? = some x → ∃ p d y, L[p]? = some y ∧ p < j ∧ d < 4 ∧ mv y.1 d = some x.1 ∧ x.2 = y.2 ++ [d]
  shut : ∀ s w, (s, w) ∈ L → ∀ d t, d < 4 → mv s d = some t → ∃ v, (t, v) ∈ L ∧ le v (w ++ [d])






end
end Go.Proofs.YtolopkjpodnmkaaDoor.Bfs
