/- How the arguments of the laws are opened: a die by value is six whole numbers, a state by value is eight. -/
import Derived.Test.YtolopkjpodnmkaaDoorRows
import Derived.WalkKit
import Derived.ProofKit
import Derived.OpenShut
import Derived.ShutString
import Derived.ChangeOld
import Derived.Below
import Derived.SizedLaws
import Derived.Lib.SmallJoins
namespace Go.Proofs.YtolopkjpodnmkaaDoor.Open
open Go.ChangeShapes Go.WideShapes Go.ChangeAt Go.RowKit Go.Joins
set_option linter.unusedVariables false

section
variable {H : Type} {enc : TypeId × Value → H} {P : Program} {w : World} {base : Nat} {spare : Nat → Bool} {held : Bool}

theorem one_of {α : Type} {l : List α} (h : l.length = 1) : ∃ a, l = [a] := by
  match l, h with
  | [a], _ => exact ⟨a, rfl⟩

theorem six_of {α : Type} {l : List α} (h : l.length = 6) : ∃ a b c d e f, l = [a, b, c, d, e, f] := by
  match l, h with
  | [a, b, c, d, e, f], _ => exact ⟨a, b, c, d, e, f, rfl⟩

theorem eight_of {α : Type} {l : List α} (h : l.length = 8) : ∃ a b c d e f g i, l = [a, b, c, d, e, f, g, i] := by
  match l, h with
  | [a, b, c, d, e, f, g, i], _ => exact ⟨a, b, c, d, e, f, g, i, rfl⟩

theorem cells_die {t ti : TypeId} {fs : Array Field} {fuel : Nat} {cs : List Value} {x : DataW H × List MemPlace} (hs : P.underlying t = some (.struct fs)) (hC : P.cellsOf t = 6)
    (hi : P.underlying ti = some (.int .i64)) (h1 : P.cellsOf ti = 1) (hf : ∀ i, i < 6 → ∃ f, fs[i]? = some f ∧ f.type = ti ∧ f.offset = i)
    (h : DataW.trod enc P w base spare held fuel t cs = some x) :
    ∃ a0 a1 a2 a3 a4 a5 : Int, cs = [.int .i64 a0, .int .i64 a1, .int .i64 a2, .int .i64 a3, .int .i64 a4, .int .i64 a5] ∧
      (Lit.int .i64 a0).wf = true ∧ (Lit.int .i64 a1).wf = true ∧ (Lit.int .i64 a2).wf = true ∧ (Lit.int .i64 a3).wf = true ∧ (Lit.int .i64 a4).wf = true ∧ (Lit.int .i64 a5).wf = true := by
  obtain ⟨xs, n, _, _, hlen, hxl, hg⟩ := DataW.trod_struct hs h
  obtain ⟨c0, c1, c2, c3, c4, c5, rfl⟩ := six_of (hlen.trans hC)
  have get : ∀ i (hi6 : i < 6), ∃ a : Int, ([c0, c1, c2, c3, c4, c5].drop i).take 1 = [Value.int .i64 a] ∧ (Lit.int .i64 a).wf = true := by
    intro i hi6
    obtain ⟨f, h2, h3, h4⟩ := hf i hi6
    have h5 := hg i f h2
    rw [h3, h4, h1] at h5
    have hlt : i < xs.length := by
      rw [hxl]
      exact (Array.getElem?_eq_some_iff.1 h2).1
    rw [List.getElem?_eq_getElem hlt] at h5
    obtain ⟨a, h6, _, h7⟩ := DataW.trod_int hi h5
    exact ⟨a, h6, h7⟩
  obtain ⟨a0, e0, w0⟩ := get 0 (by omega)
  obtain ⟨a1, e1, w1⟩ := get 1 (by omega)
  obtain ⟨a2, e2, w2⟩ := get 2 (by omega)
  obtain ⟨a3, e3, w3⟩ := get 3 (by omega)
  obtain ⟨a4, e4, w4⟩ := get 4 (by omega)
  obtain ⟨a5, e5, w5⟩ := get 5 (by omega)
  simp at e0 e1 e2 e3 e4 e5
  subst e0 e1 e2 e3 e4 e5
  exact ⟨a0, a1, a2, a3, a4, a5, rfl, w0, w1, w2, w3, w4, w5⟩


theorem open_state {r : Reach} {b0 : Nat} {t td ti : TypeId} {gs fs : Array Field} {v : Value} {d : DataW H} {p : List MemPlace} (ht : P.underlying t = some (.struct gs)) (hC8 : P.cellsOf t = 8)
    (hg0 : ∃ f, gs[0]? = some f ∧ f.type = ti ∧ f.offset = 0) (hg1 : ∃ f, gs[1]? = some f ∧ f.type = ti ∧ f.offset = 1) (hg2 : ∃ f, gs[2]? = some f ∧ f.type = td ∧ f.offset = 2)
    (hs : P.underlying td = some (.struct fs)) (hC : P.cellsOf td = 6)
    (hi : P.underlying ti = some (.int .i64)) (h1 : P.cellsOf ti = 1) (hf : ∀ i, i < 6 → ∃ f, fs[i]? = some f ∧ f.type = ti ∧ f.offset = i)
    (hv : Value.okWide P w r b0 t v) (h : DataW.Trod enc P w base spare held t v d p) :
    ∃ x y a0 a1 a2 a3 a4 a5 : Int, v = .agg #[.int .i64 x, .int .i64 y, .int .i64 a0, .int .i64 a1, .int .i64 a2, .int .i64 a3, .int .i64 a4, .int .i64 a5] ∧ (Lit.int .i64 x).wf = true ∧ (Lit.int .i64 y).wf = true ∧
      (Lit.int .i64 a0).wf = true ∧ (Lit.int .i64 a1).wf = true ∧ (Lit.int .i64 a2).wf = true ∧ (Lit.int .i64 a3).wf = true ∧ (Lit.int .i64 a4).wf = true ∧ (Lit.int .i64 a5).wf = true := by
  obtain ⟨cs, rfl, hsz⟩ := okWide_struct ht hv
  obtain ⟨fuel, hf'⟩ := h
  obtain ⟨xs, n, _, _, hlen, hxl, hg⟩ := DataW.trod_struct ht hf'
  obtain ⟨l⟩ := cs
  simp only [Value.cells] at hlen hg
  obtain ⟨c0, c1, c2, c3, c4, c5, c6, c7, rfl⟩ := eight_of (hlen.trans hC8)
  have at_ : ∀ i f, gs[i]? = some f → ∃ y, xs[i]? = some y := fun i f hh => by
    have hlt : i < xs.length := by
      rw [hxl]
      exact (Array.getElem?_eq_some_iff.1 hh).1
    exact ⟨_, List.getElem?_eq_getElem hlt⟩
  obtain ⟨f0, g0, k0, o0⟩ := hg0
  obtain ⟨f1, g1, k1, o1⟩ := hg1
  obtain ⟨f2, g2, k2, o2⟩ := hg2
  obtain ⟨y0, z0⟩ := at_ 0 f0 g0
  obtain ⟨y1, z1⟩ := at_ 1 f1 g1
  obtain ⟨y2, z2⟩ := at_ 2 f2 g2
  have r0 := hg 0 f0 g0
  have r1 := hg 1 f1 g1
  have r2 := hg 2 f2 g2
  rw [k0, o0, h1, z0] at r0
  rw [k1, o1, h1, z1] at r1
  rw [k2, o2, hC, z2] at r2
  obtain ⟨x, e0, _, w0⟩ := DataW.trod_int hi r0
  obtain ⟨y, e1, _, w1⟩ := DataW.trod_int hi r1
  obtain ⟨a0, a1, a2, a3, a4, a5, e2, hw⟩ := cells_die hs hC hi h1 hf r2
  simp at e0 e1 e2
  obtain ⟨rfl, rfl, rfl, rfl, rfl, rfl⟩ := e2
  subst e0 e1
  exact ⟨x, y, a0, a1, a2, a3, a4, a5, rfl, w0, w1, hw⟩
end
end Go.Proofs.YtolopkjpodnmkaaDoor.Open
