/- What can be rolled over labels: which states are good, what the program's over answers. Conditions: none. -/
import Derived.Test.YtolopkjpodnmkaaDoorBaseM
import Derived.Test.YtolopkjpodnmkaaDoorOver
namespace Go.Proofs.YtolopkjpodnmkaaDoor.LabG
open Go.RowKit Go.Proofs.YtolopkjpodnmkaaDoorW.PrintWords Go.Proofs.YtolopkjpodnmkaaDoorW.PrintLast Go.Proofs.YtolopkjpodnmkaaDoor.Board Go.Proofs.YtolopkjpodnmkaaDoor.IsDie Go.Proofs.YtolopkjpodnmkaaDoor.BaseM
open Go.Proofs.YtolopkjpodnmkaaDoor.Reach (St)
open Go.Proofs.YtolopkjpodnmkaaDoor.Dice (Die roll act)
open Go.Proofs.YtolopkjpodnmkaaDoor.ByteRow (unlab)
set_option linter.unusedVariables false
set_option linter.unusedSimpArgs false

theorem good_roll (d : Die) (k : Nat) (h : good d.t d.n d.e d.s d.w d.b = true) : good (roll d k).t (roll d k).n (roll d k).e (roll d k).s (roll d k).w (roll d k).b = true := by
  simp only [good, List.all_cons, List.all_nil, Bool.and_true, Bool.and_eq_true] at h ⊢
  obtain ⟨h1, h2, h3, h4, h5, h6⟩ := h
  rcases k with _ | _ | _ | k
  · exact ⟨h4, h1, h3, h6, h5, h2⟩
  · exact ⟨h5, h2, h1, h4, h6, h3⟩
  · exact ⟨h2, h6, h3, h1, h5, h4⟩
  · exact ⟨h3, h2, h6, h4, h1, h5⟩
/-- Moves that keep a state good, within so many columns and rows. -/
structure Rules (can : St → Nat → Bool) (Gd : St → Prop) (W H : Nat) : Prop where
  go : ∀ t i, Gd t → can t i = true → Gd (moved t i)
  inn : ∀ t, Gd t → (0 ≤ t.x ∧ t.x < (W : Int)) ∧ (0 ≤ t.y ∧ t.y < (H : Int))
  dig : ∀ t, Gd t → good t.d.t t.d.n t.d.e t.d.s t.d.w t.d.b = true
  w7 : W ≤ 7
  h7 : H ≤ 7
  c36 : W * H ≤ 36
/-! ### Labels -/
def mB (l : List UInt8) (t : St) : Bool := matchB l t.x t.y t.d.t
def canL (l : List UInt8) (t : St) (k : Nat) : Bool := canB (l.map unlab) t k && mB l (moved t k)
def GdL (l : List UInt8) (t : St) : Prop := (floorB (l.map unlab) t.x t.y = true ∧ good t.d.t t.d.n t.d.e t.d.s t.d.w t.d.b = true) ∧ mB l t = true
theorem rules {l : List UInt8} (h : IsB okL l) : Rules (canL l) (GdL l) (wide l) (high l) where
  go := fun t i hg hc => by
    unfold canL at hc
    rw [Bool.and_eq_true] at hc
    exact ⟨⟨hc.1, good_roll t.d i hg.1.2⟩, hc.2⟩
  inn := fun t hg => by
    have := floor_has hg.1.1
    rw [has_map] at this
    obtain ⟨h1, h2⟩ := has_iff.1 this
    exact ⟨h2, h1⟩
  dig := fun t hg => hg.1.2
  w7 := h.w7
  h7 := h.h7
  c36 := h.c36
theorem overS_eq (s : ByteArray) (h : IsB okL s.data.toList) (t : St) (hx : 0 ≤ t.x ∧ t.x < 7) (hy : 0 ≤ t.y ∧ t.y < 7) (c : Int) (hm : mB s.data.toList t = true) :
    Go.Proofs.YtolopkjpodnmkaaDoor.Over.says (gridOf s) t.x t.y t.d.t t.d.n t.d.e t.d.s t.d.w t.d.b c = some (flat (moved t (Dirs.dirOf c)) (canL s.data.toList t (Dirs.dirOf c))) := by
  have hp : IsB okB (ReadLab.plainText s).data.toList := by
    rw [plain_list]
    exact (plainB h)
  have q := gridRoll_eq (ReadLab.plainText s) hp t hx hy c
  rw [plain_list] at q
  unfold Go.Proofs.YtolopkjpodnmkaaDoor.Over.says canL
  rw [floor_at s h, Option.bind_some, q, Option.bind_some]
  cases hc : canB (s.data.toList.map unlab) t (Dirs.dirOf c) with
  | false => rfl
  | true =>
    unfold mB at hm ⊢
    rw [if_pos rfl, matches_eq s h, Option.bind_some, hm, if_pos rfl]
    simp only
    rw [matches_eq s h, Option.bind_some]
    simp
end Go.Proofs.YtolopkjpodnmkaaDoor.LabG
