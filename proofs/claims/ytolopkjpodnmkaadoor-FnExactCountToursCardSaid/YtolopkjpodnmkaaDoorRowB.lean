/- A row of Booleans in memory, told by a function. Conditions: none. -/
import Derived.Test.YtolopkjpodnmkaaDoorWOne
import Derived.Test.YtolopkjpodnmkaaDoorRows
import Derived.KernelRfl
namespace Go.Proofs.YtolopkjpodnmkaaDoor.RowB
open Go.RowKit Go.Proofs.YtolopkjpodnmkaaDoorW.PrintWords Go.Proofs.YtolopkjpodnmkaaDoorW.PrintLast
set_option linter.unusedVariables false
set_option linter.unusedSimpArgs false

def put {α : Type} (g : Nat → α) (a : Nat) (v : α) : Nat → α := fun k => if k = a then v else g k
theorem put_self {α : Type} (g : Nat → α) (a : Nat) (v : α) : put g a v a = v := if_pos rfl
theorem put_ne {α : Type} {g : Nat → α} {a k : Nat} {v : α} (h : k ≠ a) : put g a v k = g k := if_neg h
/-- The row whose elements a function tells. -/
def rowF {α : Type} (n : Nat) (g : Nat → α) : List α := (List.range n).map g
theorem row_at {α : Type} {n k : Nat} (g : Nat → α) (hk : k < n) : (rowF n g)[k]? = some (g k) := by
  unfold rowF
  rw [List.getElem?_map, List.getElem?_range hk]
  rfl
theorem row_len {α : Type} (n : Nat) (g : Nat → α) : (rowF n g).length = n := by simp [rowF]
theorem row_set {α : Type} {n k : Nat} (g : Nat → α) (v : α) : (rowF n g).set k v = rowF n (put g k v) := by
  apply List.ext_getElem?
  intro j
  rw [List.getElem?_set]
  by_cases hj : j < n
  · rw [row_at (put g k v) hj, row_len]
    by_cases e : k = j
    · subst e
      rw [if_pos rfl, if_pos hj, put_self]
    · rw [if_neg e, row_at g hj, put_ne (fun h => e h.symm)]
  · rw [List.getElem?_eq_none (by rw [row_len]; omega), List.getElem?_eq_none (by rw [row_len]; omega), row_len]
    split
    · split
      · omega
      · rfl
    · rfl
theorem row_congr {α : Type} {n : Nat} {g h : Nat → α} (he : ∀ k, k < n → g k = h k) : rowF n g = rowF n h := by
  unfold rowF
  exact List.map_congr_left fun k hk => he k (List.mem_range.1 hk)
theorem row_rep {α : Type} (n : Nat) (v : α) : List.replicate n v = rowF n (fun _ => v) := by
  apply List.ext_getElem?
  intro j
  by_cases hj : j < n
  · rw [row_at _ hj, List.getElem?_replicate, if_pos hj]
  · rw [List.getElem?_eq_none (by rw [List.length_replicate]; omega), List.getElem?_eq_none (by rw [row_len]; omega)]
theorem sc_cell {α : Type} {enc : α → Value} {h1 : ∀ x, (enc x).oneCell' = true} {e base b c n : Nat} {ok : Nat → Prop} {w : World} {xs : List α} (h : Kd.R (Kd.scalar enc h1) e w base ok (.slice (some ⟨b, 0, none⟩) n c) xs) (k : Nat) (v : α) (hx : xs[k]? = some v) :
    w.cell? ⟨b, k, none⟩ = some (enc v) ∧ w.frozen? ⟨b, k, none⟩ = false := by
  obtain ⟨hk, hv⟩ := List.getElem?_eq_some_iff.1 hx
  have hn := (Kd.R_reads' h).1
  obtain ⟨ce, hcl, hM, hcc, hfr⟩ := Kd.R_elem h v (k : Int) (by omega) (by omega)
  have hg : xs.getD (k : Int).toNat v = v := by
    rw [Int.toNat_natCast, List.getD_eq_getElem?_getD, hx]
    rfl
  rw [hg] at hM
  have hM : ce = [enc v] := hM
  subst hM
  have h2 := hcc 0 (enc v) rfl
  have h3 := hfr 0
  simp only [Int.toNat_natCast] at h2 h3
  have e1 : k * (Kd.scalar enc h1).sz + 0 = k := by show k * 1 + 0 = k; omega
  rw [e1] at h2 h3
  exact ⟨h2, h3⟩
theorem infoBl : (Tryd.prog.info? 4).map (fun i => (i.zero, i.size, i.bytes)) = some (some (.bool false), 1, 1) := by kernel_rfl
abbrev RB (B : Nat) (wr : World) (b n c : Nat) (g : Nat → Bool) : Prop := Kd.R Kd.bool 4 wr B (fun _ => True) (.slice (some ⟨b, 0, none⟩) n c) (rowF n g)
theorem rb_put {B b n c : Nat} {wr : World} {g : Nat → Bool} (r : RB B wr b n c g) (k : Nat) (v : Bool) : RB B (wr.setCell ⟨b, k, none⟩ (.bool v)) b n c (put g k v) ∧ wr.grownBy (wr.setCell ⟨b, k, none⟩ (.bool v)) (some b) := by
  have h_ := Kd.R_putg (enc := fun x : Bool => Value.bool x) r (k : Int) v
  rw [Int.toNat_natCast, row_set] at h_
  exact h_
theorem rb_far {B b n c : Nat} {wr : World} {g : Nat → Bool} (r : RB B wr b n c g) {p : Addr} (hp : b ≠ p.block) (v : Value) : RB B (wr.setCell p v) b n c g :=
  Kd.R_mono (Kd.R_far (ok := fun k => True ∧ k ≠ p.block) (Kd.R_flat (fun h => h) r (fun k hk _ => ⟨trivial, by
    have h2 : b = k := by simpa [Value.ownBlock] using hk
    rw [← h2]
    exact hp⟩)) (fun k hk => hk.2) v) (fun _ _ => trivial)
end Go.Proofs.YtolopkjpodnmkaaDoor.RowB
