/- The program's CountOverLabels, walked. Conditions: a text of no more than 2^20 bytes. -/
import Derived.Test.YtjeimidekekklaaDoorSearchG
import Derived.Test.YtjeimidekekklaaDoorOver
import Derived.Test.YtjeimidekekklaaDoorQBix
namespace Go.Proofs.YtjeimidekekklaaDoor.CountL
open Go.RowKit Go.Proofs.YtjeimidekekklaaDoor.QBi Go.Proofs.YtjeimidekekklaaDoorW.PrintWords Go.Proofs.YtjeimidekekklaaDoorW.PrintLast Go.Proofs.YtjeimidekekklaaDoor.Board Go.Proofs.YtjeimidekekklaaDoor.IsDie Go.Proofs.YtjeimidekekklaaDoor.BaseM Go.Proofs.YtjeimidekekklaaDoor.ReachR Go.Proofs.YtjeimidekekklaaDoor.SearchG
open Go.Proofs.YtjeimidekekklaaDoor.Reach (St)
open Go.Proofs.YtjeimidekekklaaDoor.Reached (mvf byt)
open Go.Proofs.YtjeimidekekklaaDoor.ByteRow (unlab)
open Go.Proofs.YtjeimidekekklaaDoor.Dirs (dirOf)
set_option linter.unusedVariables false
set_option linter.unusedSimpArgs false

def askB (s : ByteArray) (x y a0 a1 a2 a3 a4 a5 : Int) : Bool := isB okL s.data.toList && stateB (s.data.toList.map unlab) x y a0 a1 a2 a3 a4 a5
theorem onLabels_at (s : ByteArray) (hs : s.size ≤ 1048576) (x y a0 a1 a2 a3 a4 a5 : Int) (k : Nat) (hk : s.size + 2 < k) :
  ∃ g, impl_onLabels.f k s x y a0 a1 a2 a3 a4 a5 = some (g, askB s x y a0 a1 a2 a3 a4 a5) ∧ (askB s x y a0 a1 a2 a3 a4 a5 = true → g = gridOf s) := by
 obtain ⟨g, h1, h2⟩ := labelled_at s hs k hk
 refine ⟨g, ?_, fun h => h2 ?_⟩
 ·unfold impl_onLabels.f askB
  simp only [impl_labelled.f]
  rw [h1, Option.bind_some]
  cases hb : isB okL s.data.toList with
  | false => rfl
  | true =>
   obtain rfl := h2 hb
   have hp : IsB okB (ReadLab.plainText s).data.toList := by
    rw [plain_list]
    exact (plainB (isB_iff.1 hb))
   have q := isState_eq (ReadLab.plainText s) hp x y a0 a1 a2 a3 a4 a5
   rw [plain_list] at q
   rw [if_pos rfl]
   simp only [impl_grid_floor.f, impl_grid_isState.f]
   rw [floor_at s (isB_iff.1 hb), Option.bind_some, q]
   rfl
 ·unfold askB at h
  rw [Bool.and_eq_true] at h
  exact h.1
theorem ask_parts {s : ByteArray} {x y a0 a1 a2 a3 a4 a5 : Int} (h : askB s x y a0 a1 a2 a3 a4 a5 = true) : IsB okL s.data.toList ∧ hasB s.data.toList x y = true ∧ ((0 ≤ x ∧ x < 7) ∧ (0 ≤ y ∧ y < 7)) := by
 unfold askB at h
 rw [Bool.and_eq_true] at h
 have hi := isB_iff.1 h.1
 have h2 := h.2
 refine ⟨hi, ?_, state_in (plainB hi) h2⟩
 unfold stateB at h2
 rw [Bool.and_eq_true] at h2
 rw [← has_map]
 exact floor_has h2.1
theorem RS_lower {w0 w1 wr : World} {B M : Nat} {L : Bfs.Nodes St} {v0 v1 v2 v3 : Value} (h : RS w1 wr B M L v0 v1 v2 v3) (hb : Below w0.heap.size w0 w1) : RS w0 wr B M L v0 v1 v2 v3 :=
 ⟨h.blk, Kd.R_lower h.r0 hb.size, Kd.R_lower h.r1 hb.size, Kd.R_lower h.r2 hb.size, Kd.R_lower h.r3 hb.size, h.map, h.ne, below_then hb hb.size h.bel, Nat.le_trans hb.size h.big, Nat.le_trans hb.size h.bigM⟩
theorem dirOf_byt (i : Nat) (hi : i < 4) : dirOf (byt i) = i := by
 rcases i with _ | _ | _ | _ | i
 ·rfl
 ·rfl
 ·rfl
 ·rfl
 ·omega
theorem grid_pos (s : ByteArray) (h : IsB okL s.data.toList) : 0 < (gridOf s).length := by
 have h1 := grid_length s
 have h2 := h.h1
 omega
abbrev askL (s : ByteArray) (t : St) : Bool := askB s t.x t.y t.d.t t.d.n t.d.e t.d.s t.d.w t.d.b
theorem ask_gd {s : ByteArray} {t : St} (h : askL s t = true) (hm : mB s.data.toList t = true) : IsB okL s.data.toList ∧ GdL s.data.toList t := by
 unfold askL askB at h
 rw [Bool.and_eq_true] at h
 have h2 := h.2
 unfold stateB at h2
 rw [Bool.and_eq_true] at h2
 exact ⟨isB_iff.1 h.1, h2, hm⟩
theorem over_calls (s : ByteArray) (h : IsB okL s.data.toList) (t : St) (ht : GdL s.data.toList t) (i : Nat) (hi : i < 4) (A0 : Option Addr) (c0 : Nat) (W : World) (hr0 : Kd.C Kd.string W A0 (gridOf s).length (gridOf s)) (hc0 : (gridOf s).length ≤ c0) :
  Calls Tryd.prog 17 #[.slice A0 (gridOf s).length c0, .agg (st8 t), .int .u8 (byt i)] W fun e w' => e = .returned (.tuple #[.agg (st8 (moved t i)), .bool (canL s.data.toList t i)]) ∧ Below W.heap.size W w' := by
 obtain ⟨⟨x0, x1⟩, y0, y1⟩ := (rules h).inn _ ht
 have h7 := h.h7
 have w7 := h.w7
 have he := overS_eq s h t (by omega) (by omega) (byt i) ht.2
 rw [dirOf_byt i hi] at he
 exact Over.says_calls A0 c0 (gridOf s) t.x t.y t.d.t t.d.n t.d.e t.d.s t.d.w t.d.b (byt i) _ _ _ _ _ _ _ _ _ W hr0 hc0 he
theorem reached_calls (s : ByteArray) (h : IsB okL s.data.toList) (t : St) (ht : GdL s.data.toList t) (A0 : Option Addr) (c0 : Nat) (w : World) (hr0 : Kd.C Kd.string w A0 (gridOf s).length (gridOf s)) (hc0 : (gridOf s).length ≤ c0) :
  Calls Tryd.prog 16 #[.agg (st8 t), .func (.func 17) #[.slice A0 (gridOf s).length c0] #[]] w fun e w' =>
   ∃ B M v0 v1 v2 v3, e = .returned (.pointer (some ⟨B, 0, none⟩)) ∧ RS w w' B M (found (canL s.data.toList) t) v0 v1 v2 v3 :=
 Reached.reached_walk t _ moved (canL s.data.toList) (GdL s.data.toList) w ht (fun t i hg hi W hb => over_calls s h t hg i hi A0 c0 W (Kd.C_below hr0 hb) hc0) (fun t i hg _ hc => (rules h).go t i hg hc) (fun L k i hi => Nat.le_trans (small (rules h) ht L k i hi) (by decide))
end Go.Proofs.YtjeimidekekklaaDoor.CountL
