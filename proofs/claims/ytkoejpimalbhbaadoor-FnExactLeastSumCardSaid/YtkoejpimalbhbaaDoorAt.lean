/- Where a state stands among those found: laws. Conditions: none. -/
import Derived.Test.YtkoejpimalbhbaaDoorTo
namespace Go.Proofs.YtkoejpimalbhbaaDoor.At
open Go.RowKit Go.Proofs.YtkoejpimalbhbaaDoorW.PrintWords Go.Proofs.YtkoejpimalbhbaaDoor.Board Go.Proofs.YtkoejpimalbhbaaDoor.BaseR Go.Proofs.YtkoejpimalbhbaaDoor.ReachR Go.Proofs.YtkoejpimalbhbaaDoor.Search Go.Proofs.YtkoejpimalbhbaaDoor.On Go.Proofs.YtkoejpimalbhbaaDoor.To
open Go.Proofs.YtkoejpimalbhbaaDoor.Reach (St)
set_option linter.unusedVariables false
set_option linter.unusedSimpArgs false

theorem place_get {u : St} : ∀ {l : List St} {j k : Nat}, Maps.place u j l = some k → j ≤ k ∧ l[k - j]? = some u
 | [], j, k, h => by simp [Maps.place] at h
 | y :: l, j, k, h => by
  unfold Maps.place at h
  by_cases e : u = y
  ·rw [if_pos e] at h
   injection h with h
   subst h
   simp [e]
  ·rw [if_neg e] at h
   obtain ⟨h1, h2⟩ := place_get h
   refine ⟨by omega, ?_⟩
   rw [show k - j = (k - (j + 1)) + 1 from by omega, List.getElem?_cons_succ]
   exact h2
theorem at_some {L : Bfs.Nodes St} {u : St} (h : 0 ≤ atI L u) : ∃ (j : Nat) (w : List Nat), atI L u = (j : Int) ∧ L[j]? = some (u, w) := by
 unfold atI at h ⊢
 cases hp : Maps.place u 0 (L.map (·.1)) with
 | none => rw [hp] at h; simp at h
 | some j =>
  obtain ⟨_, h2⟩ := place_get hp
  rw [Nat.sub_zero, List.getElem?_map] at h2
  cases hx : L[j]? with
  | none => rw [hx] at h2; cases h2
  | some x =>
   rw [hx, Option.map_some] at h2
   injection h2 with h2
   exact ⟨j, x.2, rfl, by rw [← h2, hx]⟩
theorem at_neg {L : Bfs.Nodes St} {u : St} (h : ¬ 0 ≤ atI L u) : atI L u = -1 := by
 unfold atI at h ⊢
 cases hp : Maps.place u 0 (L.map (·.1)) with
 | none => rfl
 | some j => rw [hp] at h; simp at h
open Go.Proofs.YtkoejpimalbhbaaDoor.QBs Go.Proofs.YtkoejpimalbhbaaDoor.WyR Go.Proofs.YtkoejpimalbhbaaDoorW.PrintLast in
theorem find_l0 (ns : List Nd) (u : St) (hl : ns.length ≤ 1000) : ∀ (d i k : Nat), i + d = ns.length → d < k →
  spec_wyFind.l0 k (ns.map sNd) (ns.length : Int) (i : Int) u.x u.y u.d.t u.d.n u.d.e u.d.s u.d.w u.d.b = some (match Maps.place u i ((ns.map (·.s)).drop i) with
   | some j => (j : Int)
   | none => -1) := by
 intro d
 induction d with
 | zero =>
  intro i k hi hk
  obtain ⟨k, rfl⟩ : ∃ m, k = m + 1 := ⟨k - 1, by omega⟩
  rw [spec_wyFind.l0, if_neg (by omega), List.drop_eq_nil_of_le (by rw [List.length_map]; omega)]
  rfl
 | succ d ih =>
  intro i k hi hk
  obtain ⟨k, rfl⟩ : ∃ m, k = m + 1 := ⟨k - 1, by omega⟩
  have hlt : i < ns.length := by omega
  have hr : rd_T44 (ns.map sNd) (i : Int) = sNd ns[i] := by simp [rd_T44, List.getD, hlt]
  have hq := beqSt ns[i].s u
  rw [spec_wyFind.l0, if_pos (by omega), if_pos (by omega), if_pos (by rw [List.length_map]; omega), hr, List.drop_eq_getElem_cons (by rw [List.length_map]; exact hlt), List.getElem_map, Maps.place]
  simp only [sNd, sSt]
  rw [hq]
  by_cases h : ns[i].s = u
  ·rw [decide_eq_true h, if_pos rfl, if_pos h.symm]
  ·rw [decide_eq_false h, if_neg (by decide), if_neg (fun e => h e.symm), succ_wrap (by omega), ih (i + 1) k (by omega) (by omega)]
open Go.Proofs.YtkoejpimalbhbaaDoor.QBs Go.Proofs.YtkoejpimalbhbaaDoor.WyR in
theorem wyFind_eq (ns : List Nd) (u : St) (hl : ns.length ≤ 1000) (L : Bfs.Nodes St) (hp : WyPj.Pj ns L) (k : Nat) (hk : ns.length < k) : spec_wyFind.f k (ns.map sNd) u.x u.y u.d.t u.d.n u.d.e u.d.s u.d.w u.d.b = some (atI L u) := by
 have := find_l0 ns u hl ns.length 0 k (by omega) hk
 rw [List.drop_zero, hp.states] at this
 unfold spec_wyFind.f
 rw [List.length_map]
 exact this
end Go.Proofs.YtkoejpimalbhbaaDoor.At
