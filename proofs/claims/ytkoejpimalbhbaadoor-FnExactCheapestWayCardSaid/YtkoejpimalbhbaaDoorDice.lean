/- Plain law of dice: rolls, words of rolls, and the first shortest word from a die to another one. No program in sight. -/
import Derived.Test.YtkoejpimalbhbaaDoorBfs
namespace Go.Proofs.YtkoejpimalbhbaaDoor.Dice

structure Die where
 t : Int
 n : Int
 e : Int
 s : Int
 w : Int
 b : Int
 deriving DecidableEq

def roll (d : Die) : Nat → Die
 | 0 => ⟨d.s, d.t, d.e, d.b, d.w, d.n⟩
 | 1 => ⟨d.w, d.n, d.t, d.s, d.b, d.e⟩
 | 2 => ⟨d.n, d.b, d.e, d.t, d.w, d.s⟩
 | _ => ⟨d.e, d.n, d.b, d.s, d.t, d.w⟩
def rolled (d : Die) (w : List Nat) : Die := w.foldl roll d
def plain : Die := ⟨0, 1, 2, 3, 4, 5⟩
def get (d : Die) (k : Int) : Int := if k = 0 then d.t else if k = 1 then d.n else if k = 2 then d.e else if k = 3 then d.s else if k = 4 then d.w else d.b
def act (d p : Die) : Die := ⟨get d p.t, get d p.n, get d p.e, get d p.s, get d p.w, get d p.b⟩

theorem roll_act (d p : Die) (k : Nat) : act d (roll p k) = roll (act d p) k := by
 match k with
 | 0 => rfl
 | 1 => rfl
 | 2 => rfl
 | k + 3 => rfl
theorem act_plain (d : Die) : act d plain = d := by cases d; simp [act, plain, get]
theorem rolled_act' (d : Die) : ∀ (w : List Nat) (p : Die), act d (rolled p w) = rolled (act d p) w
 | [], _ => rfl
 | k :: w, p => by
  show act d (rolled (roll p k) w) = rolled (roll (act d p) k) w
  rw [rolled_act' d w, roll_act]
theorem rolled_act (d : Die) (w : List Nat) : rolled d w = act d (rolled plain w) := by rw [rolled_act', act_plain]

def mv (d : Die) (k : Nat) : Option Die := some (roll d k)
theorem run_mv : ∀ (w : List Nat) (d : Die), Bfs.run mv d w = some (rolled d w)
 | [], _ => rfl
 | k :: w, d => by
  show (mv d k).bind (fun t => Bfs.run mv t w) = _
  simp only [mv, Option.bind_some]
  exact run_mv w (roll d k)

def table : Bfs.Nodes Die := Bfs.search mv 25 plain
theorem table_length : table.length = 24 := by decide +kernel
theorem table_shut : ∀ x ∈ table, ∀ k, k < 4 → Bfs.has table (roll x.1 k) = true := by decide +kernel
theorem ways : ∀ (w : List Nat), (∀ d ∈ w, d < 4) → ∀ x ∈ table, Bfs.has table (rolled x.1 w) = true
 | [], _, x, hx => Bfs.has_iff.2 ⟨x.2, hx⟩
 | k :: w, hd, x, hx => by
  have h := table_shut x hx k (hd k (by simp))
  obtain ⟨v, hv⟩ := Bfs.has_iff.1 h
  exact ways w (fun e he => hd e (by simp [he])) _ hv
theorem plain_in : (plain, []) ∈ table := by decide +kernel
theorem reached (d : Die) (w : List Nat) (s : Die) (hd : ∀ e ∈ w, e < 4) (h : Bfs.run mv d w = some s) : s ∈ table.map (fun x => act d x.1) := by
 rw [run_mv, Option.some.injEq] at h
 subst h
 rw [rolled_act]
 obtain ⟨v, hv⟩ := Bfs.has_iff.1 (ways w hd _ plain_in)
 exact List.mem_map.2 ⟨_, hv, rfl⟩

def found (d : Die) : Bfs.Nodes Die := Bfs.search mv 25 d
theorem found_done (d : Die) : Bfs.Done mv d (found d) := Bfs.search_done mv d _ (fun w s hd h => reached d w s hd h) 25 (by rw [List.length_map, table_length]; omega)
theorem found_length (d : Die) : (found d).length ≤ 24 := by
 have h := found_done d
 have hp : ((found d).map Prod.fst).Pairwise (fun x y => x ≠ y) := List.pairwise_map.2 h.apart
 have := Bfs.length_le_of_apart ((found d).map Prod.fst) (table.map (fun x => act d x.1)) hp (fun s hs => by
  obtain ⟨⟨a, w⟩, hm, rfl⟩ := List.mem_map.1 hs
  exact reached d w _ (h.small _ _ hm) (h.leads _ _ hm))
 simpa [table_length] using this

def short (d e : Die) : Option (List Nat) := (table.find? fun x => decide (rolled d x.2 = e)).map (·.2)


end Go.Proofs.YtkoejpimalbhbaaDoor.Dice
