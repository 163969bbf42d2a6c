/- A map that tells which keys are in: whatever its entries' births are. Look-ups, entries put in, the last one taken out. Conditions: none. -/
import Derived.Test.YtolopkjpodnmkaaDoorMaps
import Derived.Test.YtolopkjpodnmkaaDoorWOne
import Derived.KernelRfl
import Derived.Deep.QuietTactic
import Derived.BigQuiet
import Derived.IntWalk
namespace Go.Proofs.YtolopkjpodnmkaaDoor.MapT
open Go.RowKit Go.Proofs.YtolopkjpodnmkaaDoor.Maps Go.Proofs.YtolopkjpodnmkaaDoorW.PrintWords
open Go.ChangeMaps (setBlock heap_setBlock_same heap_setBlock_other)
set_option linter.unusedVariables false
set_option linter.unusedSimpArgs false

section
variable {P : Program} {K : TypeId} {α : Type} [DecidableEq α] {enc : α → Value}
abbrev kv (e : MapEntry) : Value × Value := (e.key, e.val)
def holdsT (w : World) (enc : α → Value) (b : Nat) (l : List α) : Prop := ∃ (es : List MapEntry) (clock : Nat), w.heap[b]? = some (.map es.toArray clock) ∧ es.map kv = l.map fun x => (enc x, Value.bool true)
omit [DecidableEq α] in
theorem holdsT_lt {w : World} {b : Nat} {l : List α} (h : holdsT w enc b l) : b < w.heap.size := by
  obtain ⟨es, c, h, _⟩ := h
  exact (Array.getElem?_eq_some_iff.1 h).1
omit [DecidableEq α] in
theorem holdsT_of_block {w w' : World} {b : Nat} {l : List α} (h : holdsT w enc b l) (hb : w'.heap[b]? = w.heap[b]?) : holdsT w' enc b l := by
  obtain ⟨es, c, h, h2⟩ := h
  exact ⟨es, c, by rw [hb, h], h2⟩
omit [DecidableEq α] in
theorem holdsT_below {w w' : World} {b : Nat} {l : List α} (h : holdsT w enc b l) (hb : Below w.heap.size w w') : holdsT w' enc b l := holdsT_of_block h (hb.block b (holdsT_lt h))
theorem asking_es (F : Fits P K enc) (x : α) (w : World) : ∀ (es : List MapEntry) (l : List α) (j : Nat), es.map kv = l.map (fun x => (enc x, Value.bool true)) → (Instr.findAsking K (enc x) es j).run P w = .ok ((place x j l).map fun i => (i, Value.bool true)) w
  | [], l, j, h => by
    cases l with
    | nil => simp [Instr.findAsking, place]
    | cons y l => simp at h
  | e :: es, l, j, h => by
    cases l with
    | nil => simp at h
    | cons y l =>
      simp only [List.map_cons, List.cons.injEq, Prod.mk.injEq] at h
      obtain ⟨⟨h1, h2⟩, h3⟩ := h
      simp only [Instr.findAsking, place, Sem.run_bind, h1, F.eql, Result.andThen_ok]
      by_cases e' : x = y
      · simp [e', h2]
      · simp only [e', decide_false, Bool.false_eq_true, if_false]
        exact asking_es F x w es l (j + 1) h3
theorem find_es (F : Fits P K enc) (x : α) (w : World) (es : List MapEntry) (l : List α) (h : es.map kv = l.map fun x => (enc x, Value.bool true)) : (Instr.findKey K (enc x) es).run P w = .ok ((place x 0 l).map fun i => (i, Value.bool true)) w := by
  obtain ⟨d, hd⟩ := F.kd
  have hrun := asking_es F x w es l 0 h
  unfold Instr.findKey
  simp only [Sem.run_bind, run_underlying hd, Result.andThen_ok]
  cases es with
  | nil =>
    cases l with
    | nil => simp [Instr.findNow, place]
    | cons y l => simp at h
  | cons e es =>
    cases l with
    | nil => simp at h
    | cons y l =>
      obtain ⟨cs, hcs⟩ := F.agg x
      obtain ⟨ds, hds⟩ := F.agg y
      have hk : e.key = .agg ds := by
        simp only [List.map_cons, List.cons.injEq, Prod.mk.injEq] at h
        rw [h.1.1, hds]
      have hn : Instr.findNow d (enc x) (e :: es) 0 = none := by
        simp only [Instr.findNow, hcs, hk]
        cases d <;> rfl
      rw [hn]
      exact hrun
theorem look (F : Fits P K enc) {T E : TypeId} (hT : P.underlying T = some (.map K E)) {w : World} (hz : (zeroValue E).run P w = .ok (.bool false) w) {b : Nat} {l : List α} (h : holdsT w enc b l) (x : α) :
    (Instr.lookup T (.map (some b)) (enc x) false).run P w = .ok (.bool (place x 0 l).isSome) w := by
  obtain ⟨es, clock, h, he⟩ := h
  have hf := find_es F x w es l he
  have hg : (getObj b).run P w = .ok (.map es.toArray clock) w := by simp [getObj, Sem.run, h]
  have hc := F.chk
  unfold Instr.lookup
  simp only [Sem.run_bind, run_underlying hT, Result.andThen_ok, hg, Sem.run_pure, hc, hf]
  cases hp : place x 0 l with
  | none => simp [hz]
  | some i => simp
theorem put (F : Fits P K enc) {T E : TypeId} (hT : P.underlying T = some (.map K E)) {w : World} {b : Nat} {l : List α} (h : holdsT w enc b l) (x : α) (hx : x ∉ l) :
    ∃ o, (Instr.mapUpdate T (.map (some b)) (enc x) (.bool true)).run P w = .ok () (setBlock w b o) ∧ holdsT (setBlock w b o) enc b (l ++ [x]) := by
  obtain ⟨es, clock, h, he⟩ := h
  have hf := find_es F x w es l he
  rw [place_none.2 hx] at hf
  have hg : (getObj b).run P w = .ok (.map es.toArray clock) w := by simp [getObj, Sem.run, h]
  have hs : ∀ o, (setObj b o).run P w = .ok () (setBlock w b o) := fun o => by simp [setObj, Sem.run, h, setBlock]
  have hc := F.chk
  refine ⟨.map (es ++ [(⟨enc x, .bool true, clock⟩ : MapEntry)]).toArray (clock + 1), ?_, es ++ [(⟨enc x, .bool true, clock⟩ : MapEntry)], clock + 1, heap_setBlock_same h _, by simp [he, kv]⟩
  unfold Instr.mapUpdate
  simp only [Sem.run_bind, run_underlying hT, Result.andThen_ok, hg, Sem.run_pure, hc, hf, Option.map_none]
  simp [hs]
theorem place_last {x : α} : ∀ {l : List α} {j : Nat}, x ∉ l → place x j (l ++ [x]) = some (j + l.length)
  | [], j, h => by simp [place]
  | y :: l, j, h => by
    have hn : x ≠ y := fun e => h (by simp [e])
    rw [List.cons_append, place, if_neg hn, place_last (fun e => h (by simp [e]))]
    simp only [List.length_cons]
    congr 1
    omega
omit [DecidableEq α] in
theorem erase_map {β γ : Type} (f : β → γ) : ∀ (l : List β) (n : Nat), (l.eraseIdx n).map f = (l.map f).eraseIdx n
  | [], n => by simp
  | x :: l, 0 => by simp
  | x :: l, n + 1 => by simp [erase_map f l n]
theorem del (F : Fits P K enc) {T E : TypeId} (hT : P.underlying T = some (.map K E)) {w : World} {b : Nat} {l : List α} {x : α} (h : holdsT w enc b (l ++ [x])) (hx : x ∉ l) (K2 ty : TypeId) (cs : Array Bool) :
    ∃ o, (invoke (.builtin .delete #[T, K2] ty cs) #[.map (some b), enc x]).run P w = .ok (.value (.tuple #[])) (setBlock w b o) ∧ holdsT (setBlock w b o) enc b l := by
  obtain ⟨es, clock, h, he⟩ := h
  have hf := find_es F x w es _ he
  rw [place_last hx, Nat.zero_add] at hf
  have hg : (getObj b).run P w = .ok (.map es.toArray clock) w := by simp [getObj, Sem.run, h]
  have hs : ∀ o, (setObj b o).run P w = .ok () (setBlock w b o) := fun o => by simp [setObj, Sem.run, h, setBlock]
  have hc := F.chk
  have hl : es.length = l.length + 1 := by
    have := congrArg List.length he
    simpa using this
  refine ⟨.map (es.eraseIdx l.length).toArray clock, ?_, es.eraseIdx l.length, clock, heap_setBlock_same h _, ?_⟩
  · unfold invoke builtin Builtin.delete_
    simp only [Sem.run_bind, run_underlying hT, Result.andThen_ok, hg, Sem.run_pure, hc, hf]
    simp [hs, hl, hg, hf, hc, run_underlying hT, Array.eraseIdxIfInBounds]
  · rw [erase_map, he]
    simp [List.eraseIdx_append_of_length_le]
end
/-! ### Pairs of numbers as keys -/
abbrev enc2 (c : Int × Int) : Value := .agg #[.int .i64 c.1, .int .i64 c.2]
theorem eq1 (d : Nat) (x y : Int) (w : World) : (Op.equalIn (d + 1) 3 (.int .i64 x) (.int .i64 y)).run Tryd.prog w = .ok (x == y) w := by
  unfold Op.equalIn
  simp [run_underlying Tryd.underlying3]
theorem eq2 (d : Nat) (w : World) (x y : Int × Int) : (Op.equalIn (d + 2) 67 (enc2 x) (enc2 y)).run Tryd.prog w = .ok (decide (x = y)) w := by
  obtain ⟨a, b⟩ := x
  obtain ⟨c, e⟩ := y
  have hq := eq1 d
  rw [Op.equalIn]
  generalize Op.equalIn (d + 1) 3 = E at hq ⊢
  go_simp
  simp only [show List.range' 0 2 = [0, 1] from rfl, List.forIn_cons, List.forIn_nil]
  by_cases h1 : a = c
  · by_cases h2 : b = e
    · go_simp
    · go_simp
  · go_simp
theorem chk2 (em : Bool) (x : Int × Int) (w : World) : (Instr.checkKey em 10000 67 (enc2 x)).run Tryd.prog w = .ok () w := by
  have h : ∀ (n : Nat) (v : Int) (w : World), (Instr.checkKey em (n + 1) 3 (.int .i64 v)).run Tryd.prog w = .ok () w := fun n v w => by
    unfold Instr.checkKey
    simp [run_underlying Tryd.underlying3]
  have hc := h 9998
  rw [Instr.checkKey]
  generalize Instr.checkKey em 9999 3 = C at hc ⊢
  go_simp
  simp only [show List.range' 0 2 = [0, 1] from rfl, List.forIn_cons, List.forIn_nil]
  go_simp
theorem fits2 : Fits Tryd.prog 67 enc2 where
  chk := chk2
  eql := fun x y w => by
    unfold Op.equal Op.maxDepth
    exact eq2 9998 w x y
  agg := fun x => ⟨_, rfl⟩
  kd := ⟨_, Tryd.underlying67⟩
end Go.Proofs.YtolopkjpodnmkaaDoor.MapT
