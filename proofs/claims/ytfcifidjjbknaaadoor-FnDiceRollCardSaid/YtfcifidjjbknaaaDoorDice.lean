/- Plain law of dice: rolls, words of rolls, and the first shortest word from a die to another one. No program in sight. -/
import Derived.Test.YtfcifidjjbknaaaDoorBfs
namespace Go.Proofs.YtfcifidjjbknaaaDoor.Dice

structure Die where
  t : Int
  n : Int
  e : Int
  s : Int
  w : Int
  b : Int
  deriving DecidableEq

def roll (d : Die) : Nat → Die
  | 0 => ⟨d.s, d.t, d.e, d.b, d.w, d.n⟩
  | 1 => ⟨d.w, d.n, d.t, d.s, d.b, d.e⟩
  | 2 => ⟨d.n, d.b, d.e, d.t, d.w, d.s⟩
  | _ => ⟨d.e, d.n, d.b, d.s, d.t, d.w⟩
def rolled (d : Die) (w : List Nat) : Die := w.foldl roll d
def plain : Die := ⟨0, 1, 2, 3, 4, 5⟩
def get (d : Die) (k : Int) : Int := if k = 0 then d.t else if k = 1 then d.n else if k = 2 then d.e else if k = 3 then d.s else if k = 4 then d.w else d.b
def act (d p : Die) : Die := ⟨get d p.t, get d p.n, get d p.e, get d p.s, get d p.w, get d p.b⟩

theorem roll_act (d p : Die) (k : Nat) : act d (roll p k) = roll (act d p) k := by
  match k with
  | 0 => rfl
  | 1 => rfl
  | 2 => rfl
  | k + 3 => rfl
theorem act_plain (d : Die) : act d plain = d := by cases d; simp [act, plain, get]
theorem rolled_act' (d : Die) : ∀ (w : List Nat) (p : Die), act d (rolled p w) = rolled (act d p) w
  | [], _ => rfl
  | k :: w, p => by
    show act d (rolled (roll p k) w) = rolled (roll (act d p) k) w
    rw [rolled_act' d w, roll_act]
theorem rolled_act (d : Die) (w : List Nat) : rolled d w = act d (rolled plain w) := by rw [rolled_act', act_plain]
theorem rolled_snoc (d : Die) (w : List Nat) (k : Nat) : rolled d (w ++ [k]) = roll (rolled d w) k := by simp [rolled]

def mv (d : Die) (k : Nat) : Option Die := some (roll d k)
theorem run_mv : ∀ (w : List Nat) (d : Die), Bfs.run mv d w = some (rolled d w)
  | [], _ => rfl
  | k :: w, d => by
    show (mv d k).bind (fun t => Bfs.run mv t w) = _
    simp only [mv, Option.bind_some]
    exact run_mv w (roll d k)

def table : Bfs.Nodes Die := Bfs.search mv 25 plain
theorem table_length : table.length = 24 := by decide +kernel
theorem table_shut : ∀ x ∈ table, ∀ k, k < 4 → Bfs.has table (roll x.1 k) = true := by decide +kernel
theorem ways : ∀ (w : List Nat), (∀ d ∈ w, d < 4) → ∀ x ∈ table, Bfs.has table (rolled x.1 w) = true
  | [], _, x, hx => Bfs.has_iff.2 ⟨x.2, hx⟩
  | k :: w, hd, x, hx => by
    have h := table_shut x hx k (hd k (by simp))
    obtain ⟨v, hv⟩ := Bfs.has_iff.1 h
    exact ways w (fun e he => hd e (by simp [he])) _ hv
theorem plain_in : (plain, []) ∈ table := by decide +kernel
theorem reached (d : Die) (w : List Nat) (s : Die) (hd : ∀ e ∈ w, e < 4) (h : Bfs.run mv d w = some s) : s ∈ table.map (fun x => act d x.1) := by
  rw [run_mv, Option.some.injEq] at h
  subst h
  rw [rolled_act]
  obtain ⟨v, hv⟩ := Bfs.has_iff.1 (ways w hd _ plain_in)
  exact List.mem_map.2 ⟨_, hv, rfl⟩
theorem table_done : Bfs.Done mv plain table := Bfs.search_done mv plain _ (fun w s hd h => reached plain w s hd h) 25 (by rw [List.length_map, table_length]; omega)

def found (d : Die) : Bfs.Nodes Die := Bfs.search mv 25 d
theorem found_done (d : Die) : Bfs.Done mv d (found d) := Bfs.search_done mv d _ (fun w s hd h => reached d w s hd h) 25 (by rw [List.length_map, table_length]; omega)

def short (d e : Die) : Option (List Nat) := (table.find? fun x => decide (rolled d x.2 = e)).map (·.2)
def wordTo (d e : Die) : Option (List Nat) := ((found d).find? fun x => decide (x.1 = e)).map (·.2)

theorem find_at {α : Type} {p : α → Bool} : ∀ (l : List α) (j : Nat) (x : α), l[j]? = some x → p x = true → (∀ i y, i < j → l[i]? = some y → p y = false) → l.find? p = some x
  | [], j, x, h, _, _ => by simp at h
  | y :: l, 0, x, h, hp, _ => by
    simp at h
    subst h
    simp [hp]
  | y :: l, j + 1, x, h, hp, hb => by
    have h0 := hb 0 y (by omega) (by simp)
    rw [List.find?_cons, h0]
    exact find_at l j x (by simpa using h) hp (fun i z hi hz => hb (i + 1) z (by omega) (by simpa using hz))

theorem short_eq (d e : Die) : short d e = wordTo d e := by
  have hT := table_done
  have hF := found_done d
  unfold short wordTo
  cases hf : (found d).find? (fun x => decide (x.1 = e)) with
  | none =>
    rw [List.find?_eq_none] at hf
    have : table.find? (fun x => decide (rolled d x.2 = e)) = none := by
      rw [List.find?_eq_none]
      intro x hx
      simp only [decide_eq_true_eq]
      intro he
      obtain ⟨w, hw, _⟩ := Bfs.done_least mv hF x.2.length x.2 rfl (hT.small _ _ hx) (rolled d x.2) (run_mv _ _)
      exact hf _ hw (by simpa using he)
    rw [this]
  | some y =>
    obtain ⟨s, w⟩ := y
    have hm := List.mem_of_find?_eq_some hf
    have he : s = e := by simpa using List.find?_some hf
    subst he
    -- the table's word for what w makes of the plain die
    obtain ⟨u, hu, hle⟩ := Bfs.done_least mv hT w.length w rfl (hF.small _ _ hm) (rolled plain w) (run_mv _ _)
    have hul : rolled plain u = rolled plain w := by
      have := hT.leads _ _ hu
      rw [run_mv, Option.some.injEq] at this
      exact this
    have hws : rolled d w = s := by
      have := hF.leads _ _ hm
      rw [run_mv, Option.some.injEq] at this
      exact this
    have hus : rolled d u = s := by rw [rolled_act, hul, ← rolled_act, hws]
    -- of all words to s, w is the first one
    have least : ∀ v, (∀ k ∈ v, k < 4) → rolled d v = s → Bfs.le w v := fun v hv hvs => by
      obtain ⟨x, hx, hxl⟩ := Bfs.done_least mv hF v.length v rfl hv s (by rw [run_mv, hvs])
      obtain ⟨i, hi⟩ := List.mem_iff_getElem?.1 hx
      obtain ⟨j, hj⟩ := List.mem_iff_getElem?.1 hm
      have : i = j := by
        rcases Nat.lt_trichotomy i j with h | h | h
        · exact absurd rfl (List.pairwise_iff_getElem.1 hF.apart i j (List.getElem?_eq_some_iff.1 hi).1 (List.getElem?_eq_some_iff.1 hj).1 h |> fun z => by
            rw [(List.getElem?_eq_some_iff.1 hi).2, (List.getElem?_eq_some_iff.1 hj).2] at z
            exact z)
        · exact h
        · exact absurd rfl (List.pairwise_iff_getElem.1 hF.apart j i (List.getElem?_eq_some_iff.1 hj).1 (List.getElem?_eq_some_iff.1 hi).1 h |> fun z => by
            rw [(List.getElem?_eq_some_iff.1 hi).2, (List.getElem?_eq_some_iff.1 hj).2] at z
            exact z)
      subst this
      rw [hi] at hj
      injection hj with hj
      injection hj with _ hj
      subst hj
      exact hxl
    have huw : u = w := Bfs.le_antisymm hle (least u (hT.small _ _ hu) hus)
    subst huw
    obtain ⟨j, hj⟩ := List.mem_iff_getElem?.1 hu
    rw [find_at table j _ hj (by simpa using hus) (fun i y hi hy => by
      simp only [decide_eq_false_iff_not]
      intro h
      have h1 := least y.2 (hT.small _ _ (List.mem_of_getElem? hy)) h
      exact Bfs.not_lt_of_le h1 (Bfs.rising_at hT.rising hy hj hi))]
    rfl
end Go.Proofs.YtfcifidjjbknaaaDoor.Dice
