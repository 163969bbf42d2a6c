/- The call of IsDie: true exactly if all six numbers lie in 0..9. -/
import Derived.Test.YtfcifidjjbknaaaDoorRows
import Derived.Test.YtfcifidjjbknaaaDoorWOne
import Derived.Below
import Derived.Deep.Draws
import Derived.OwnWalk
import Derived.WalkKit
import Derived.KernelRfl
import Derived.Deep.LoopGhost
import Derived.Lib.Hide
import Derived.Outline
import Derived.Deep.QuietTactic
import Derived.BigQuiet
namespace Go.Proofs.YtfcifidjjbknaaaDoor.IsDie
open Go.RowKit Go.Proofs.YtfcifidjjbknaaaDoorW.PrintWords
set_option linter.unusedVariables false
set_option linter.unusedSimpArgs false

def inB (n : Int) : Bool := decide (0 ≤ n) && decide (n ≤ 9)

theorem in_calls (n : Int) (w : World) : Calls Tryd.prog 31 #[.int .i64 n, .int .i64 0, .int .i64 9] w fun e w' => e = .returned (.bool (inB n)) ∧ w = w' := by
  unfold inB
  by_cases h : 0 ≤ n
  · have hd : decide (0 ≤ n) = true := by simpa using h
    go_enter Tryd.func31, Tryd.ntmps31
    go_wp2
    go_ret
    exact ⟨by simp [h], rfl⟩
  · have hd : decide (0 ≤ n) = false := by simpa using h
    go_enter Tryd.func31, Tryd.ntmps31
    go_wp2
    go_ret
    exact ⟨by simp [h], rfl⟩

theorem lit_calls (n : Int) (w : World) : Calls Tryd.prog 49 #[.int .i64 n] w fun e w' => e = .returned (.bool (!inB n)) ∧ w = w' := by
  go_enter Tryd.func49, Tryd.ntmps49
  go_wp2_with (go_at_call 31; refine (in_calls _ _).mono ?_; rintro e w' ⟨rfl, rfl⟩)
  go_ret
  exact ⟨rfl, rfl⟩

def IdxSays (zs : List Int) (w : World) (e : Ending) (w' : World) : Prop :=
  ∃ r : Int, ((zs.all inB = true ∧ r = -1) ∨ (zs.all inB = false ∧ 0 ≤ r)) ∧ e = .returned (.int .i64 r) ∧ w = w'

theorem all_take_succ (zs : List Int) (k : Nat) (hk : k < zs.length) (h : (zs.take k).all inB = true) (hb : inB (zs.getD k 0) = true) : (zs.take (k + 1)).all inB = true := by
  rw [List.take_succ_eq_append_getElem hk, List.all_append, h]
  simp [List.getD_eq_getElem?_getD, List.getElem?_eq_getElem hk] at hb
  simp [hb]
theorem all_false (zs : List Int) (k : Nat) (hk : k < zs.length) (hb : inB (zs.getD k 0) = false) : zs.all inB = false := by
  rw [List.all_eq_false]
  simp [List.getD_eq_getElem?_getD, List.getElem?_eq_getElem hk] at hb
  exact ⟨_, List.getElem_mem hk, by simp [hb]⟩

set_option maxHeartbeats 1000000 in
theorem index_calls (b off c : Nat) (zs : List Int) (w : World) (hl : zs.length ≤ 1000) (hc : ∀ j, j < zs.length → w.cell? ⟨b, off + j, none⟩ = some (.int .i64 (zs.getD j 0))) :
    Calls Tryd.prog 58 #[.slice (some ⟨b, off, none⟩) zs.length c, .func (.func 49) #[] #[]] w (IdxSays zs w) := by
  have HC : Hid (∀ j, j < zs.length → w.cell? ⟨b, off + j, none⟩ = some (.int .i64 (zs.getD j 0))) := hc
  clear hc
  go_enter Tryd.func58, Tryd.ntmps58
  go_wp2
  go_loop [8] (fun i => ∃ k : Nat, k ≤ zs.length ∧ i = .int .i64 k ∧ (zs.take k).all inB = true) (fun i => zs.length - (intOf i).toNat)
  case atStart => exact ⟨0, Nat.zero_le _, rfl, by simp⟩
  case round =>
    obtain ⟨k, hk, rfl, hall⟩ := hrel
    have HA : Hid ((zs.take k).all inB = true) := hall
    clear hall
    by_cases hlt : k < zs.length
    · have hcell := HC.out k hlt
      obtain ⟨z, hz⟩ : ∃ z, z = zs.getD k 0 := ⟨_, rfl⟩
      rw [← hz] at hcell
      have HZ : Hid (z = zs.getD k 0) := hz
      clear hz
      cases hb : inB z with
      | true =>
        go_wp2_with (go_at_call 49; refine (lit_calls _ _).mono ?_; rintro e w' ⟨rfl, rfl⟩)
        go_round
        case rel => exact ⟨k + 1, by omega, by go_num, all_take_succ zs k hlt HA.out (by rw [← HZ.out]; exact hb)⟩
        case measure => simp [intOf]; omega
      | false =>
        go_wp2_with (go_at_call 49; refine (lit_calls _ _).mono ?_; rintro e w' ⟨rfl, rfl⟩)
        go_ret
        exact ⟨k, .inr ⟨all_false zs k hlt (by rw [← HZ.out]; exact hb), by omega⟩, rfl, rfl⟩
    · go_wp2
      go_ret
      refine ⟨-1, .inl ⟨?_, rfl⟩, rfl, rfl⟩
      have := HA.out
      rwa [List.take_of_length_le (by omega)] at this


theorem index_true (b off c : Nat) (zs : List Int) (w : World) (hl : zs.length ≤ 1000) (hc : ∀ j, j < zs.length → w.cell? ⟨b, off + j, none⟩ = some (.int .i64 (zs.getD j 0))) (ha : zs.all inB = true) :
    Calls Tryd.prog 58 #[.slice (some ⟨b, off, none⟩) zs.length c, .func (.func 49) #[] #[]] w fun e w' => e = .returned (.int .i64 (-1)) ∧ w = w' :=
  (index_calls b off c zs w hl hc).mono fun e w' h => by
    obtain ⟨r, h | h, he, hw⟩ := h
    · exact ⟨by rw [he, h.2], hw⟩
    · rw [ha] at h
      cases h.1
theorem index_false (b off c : Nat) (zs : List Int) (w : World) (hl : zs.length ≤ 1000) (hc : ∀ j, j < zs.length → w.cell? ⟨b, off + j, none⟩ = some (.int .i64 (zs.getD j 0))) (ha : zs.all inB = false) :
    Calls Tryd.prog 58 #[.slice (some ⟨b, off, none⟩) zs.length c, .func (.func 49) #[] #[]] w fun e w' => ∃ r : Nat, e = .returned (.int .i64 r) ∧ w = w' :=
  (index_calls b off c zs w hl hc).mono fun e w' h => by
    obtain ⟨r, h | h, he, hw⟩ := h
    · rw [ha] at h
      cases h.1
    · exact ⟨r.toNat, by rw [he, Int.toNat_of_nonneg h.2], hw⟩

theorem contains_calls (b off c : Nat) (zs : List Int) (w : World) (hl : zs.length ≤ 1000) (hc : ∀ j, j < zs.length → w.cell? ⟨b, off + j, none⟩ = some (.int .i64 (zs.getD j 0))) :
    Calls Tryd.prog 47 #[.slice (some ⟨b, off, none⟩) zs.length c, .func (.func 49) #[] #[]] w fun e w' => e = .returned (.bool (!zs.all inB)) ∧ w = w' := by
  cases ha : zs.all inB with
  | true =>
    have HI := Lib.hid (index_true b off c zs w hl hc ha)
    clear hc ha
    go_enter Tryd.func47, Tryd.ntmps47
    go_wp2_with (go_at_call 58; refine HI.out.mono ?_; rintro e w' ⟨rfl, rfl⟩)
    go_ret
    exact ⟨rfl, rfl⟩
  | false =>
    have HI := Lib.hid (index_false b off c zs w hl hc ha)
    clear hc ha
    go_enter Tryd.func47, Tryd.ntmps47
    go_wp2_with (go_at_call 58; refine HI.out.mono ?_; rintro e w' ⟨r, rfl, rfl⟩)
    go_ret
    exact ⟨by simp, rfl⟩

def good (a0 a1 a2 a3 a4 a5 : Int) : Bool := [a0, a1, a2, a3, a4, a5].all inB

abbrev sixCells (a0 a1 a2 a3 a4 a5 : Int) : Array Value := #[.int .i64 a0, .int .i64 a1, .int .i64 a2, .int .i64 a3, .int .i64 a4, .int .i64 a5]
theorem faces_calls (a0 a1 a2 a3 a4 a5 : Int) (w : World) : Calls Tryd.prog 48 #[.agg #[.int .i64 a0, .int .i64 a1, .int .i64 a2, .int .i64 a3, .int .i64 a4, .int .i64 a5]] w
    fun e w' => e = .returned (.slice (some ⟨w.heap.size + 1, 0, none⟩) 6 6) ∧
      w' = (w.alloc (.cells #[.int .i64 a0, .int .i64 a1, .int .i64 a2, .int .i64 a3, .int .i64 a4, .int .i64 a5] 25)).alloc (.cells #[.int .i64 a0, .int .i64 a1, .int .i64 a2, .int .i64 a3, .int .i64 a4, .int .i64 a5] 3) := by
  go_enter Tryd.func48, Tryd.ntmps48
  go_wp2
  go_ret
  exact ⟨rfl, rfl⟩

theorem contains_good (a0 a1 a2 a3 a4 a5 : Int) (b : Nat) (W : World) (hb : W.heap[b]? = some (.cells #[.int .i64 a0, .int .i64 a1, .int .i64 a2, .int .i64 a3, .int .i64 a4, .int .i64 a5] 3)) :
    Calls Tryd.prog 47 #[.slice (some ⟨b, 0, none⟩) 6 6, .func (.func 49) #[] #[]] W fun e w' => e = .returned (.bool (!good a0 a1 a2 a3 a4 a5)) ∧ W = w' := by
  refine contains_calls b 0 6 [a0, a1, a2, a3, a4, a5] W (by simp) (fun j hj => ?_)
  rcases j with _ | _ | _ | _ | _ | _ | j
  all_goals first | (simp at hj; omega) | simp [World.cell?, hb]

theorem heap_last (w : World) (o : Obj) (k : Nat) (h : k = w.heap.size) : (w.alloc o).heap[k]? = some o := by
  subst h
  show (w.heap.push o)[w.heap.size]? = some o
  simp

theorem isDie_calls (a0 a1 a2 a3 a4 a5 : Int) (w : World) : Calls Tryd.prog 20 #[.agg #[.int .i64 a0, .int .i64 a1, .int .i64 a2, .int .i64 a3, .int .i64 a4, .int .i64 a5]] w
    fun e w' => e = .returned (.bool (good a0 a1 a2 a3 a4 a5)) ∧ Below w.heap.size w w' := by
  go_enter Tryd.func20, Tryd.ntmps20
  go_wp2_with fail
  refine (faces_calls _ _ _ _ _ _ _).mono ?_
  rintro e w' ⟨rfl, rfl⟩
  go_wp2_with fail
  refine (contains_good a0 a1 a2 a3 a4 a5 _ _ ?_).mono ?_
  · exact heap_last _ _ _ (by simp)
  rintro e w' ⟨rfl, rfl⟩
  go_wp2_with fail
  go_ret
  exact ⟨by simp, (((Below.refl _ _).alloc (Nat.le_refl _) _).alloc (by simp) _).alloc (by simp; omega) _⟩
end Go.Proofs.YtfcifidjjbknaaaDoor.IsDie
