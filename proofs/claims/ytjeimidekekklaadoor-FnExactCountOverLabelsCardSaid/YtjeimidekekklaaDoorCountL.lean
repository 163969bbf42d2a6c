/- The program's CountOverLabels, walked. Conditions: a text of no more than 2^20 bytes. -/
import Derived.Test.YtjeimidekekklaaDoorSearchG
import Derived.Test.YtjeimidekekklaaDoorOver
import Derived.Test.YtjeimidekekklaaDoorQBix
namespace Go.Proofs.YtjeimidekekklaaDoor.CountL
open Go.Lib (hid)
open Go.RowKit Go.Proofs.YtjeimidekekklaaDoor.QBi Go.Proofs.YtjeimidekekklaaDoorW.PrintWords Go.Proofs.YtjeimidekekklaaDoorW.PrintLast Go.Proofs.YtjeimidekekklaaDoor.Board Go.Proofs.YtjeimidekekklaaDoor.IsDie Go.Proofs.YtjeimidekekklaaDoor.BaseM Go.Proofs.YtjeimidekekklaaDoor.ReachR Go.Proofs.YtjeimidekekklaaDoor.SearchG
open Go.Proofs.YtjeimidekekklaaDoor.Reach (St)
open Go.Proofs.YtjeimidekekklaaDoor.Reached (mvf byt)
open Go.Proofs.YtjeimidekekklaaDoor.ByteRow (unlab)
open Go.Proofs.YtjeimidekekklaaDoor.Dirs (dirOf)
set_option linter.unusedVariables false
set_option linter.unusedSimpArgs false

def askB (s : ByteArray) (x y a0 a1 a2 a3 a4 a5 : Int) : Bool := isB okL s.data.toList && stateB (s.data.toList.map unlab) x y a0 a1 a2 a3 a4 a5
theorem onLabels_at (s : ByteArray) (hs : s.size ≤ 1048576) (x y a0 a1 a2 a3 a4 a5 : Int) (k : Nat) (hk : s.size + 2 < k) :
  ∃ g, impl_onLabels.f k s x y a0 a1 a2 a3 a4 a5 = some (g, askB s x y a0 a1 a2 a3 a4 a5) ∧ (askB s x y a0 a1 a2 a3 a4 a5 = true → g = gridOf s) := by
 obtain ⟨g, h1, h2⟩ := labelled_at s hs k hk
 refine ⟨g, ?_, fun h => h2 ?_⟩
 ·unfold impl_onLabels.f askB
  simp only [impl_labelled.f]
  rw [h1, Option.bind_some]
  cases hb : isB okL s.data.toList with
  | false => rfl
  | true =>
   obtain rfl := h2 hb
   have hp : IsB okB (ReadLab.plainText s).data.toList := by
    rw [plain_list]
    exact (plainB (isB_iff.1 hb))
   have q := isState_eq (ReadLab.plainText s) hp x y a0 a1 a2 a3 a4 a5
   rw [plain_list] at q
   rw [if_pos rfl]
   simp only [impl_grid_floor.f, impl_grid_isState.f]
   rw [floor_at s (isB_iff.1 hb), Option.bind_some, q]
   rfl
 ·unfold askB at h
  rw [Bool.and_eq_true] at h
  exact h.1
theorem ask_parts {s : ByteArray} {x y a0 a1 a2 a3 a4 a5 : Int} (h : askB s x y a0 a1 a2 a3 a4 a5 = true) : IsB okL s.data.toList ∧ hasB s.data.toList x y = true ∧ ((0 ≤ x ∧ x < 7) ∧ (0 ≤ y ∧ y < 7)) := by
 unfold askB at h
 rw [Bool.and_eq_true] at h
 have hi := isB_iff.1 h.1
 have h2 := h.2
 refine ⟨hi, ?_, state_in (plainB hi) h2⟩
 unfold stateB at h2
 rw [Bool.and_eq_true] at h2
 rw [← has_map]
 exact floor_has h2.1
theorem RS_lower {w0 w1 wr : World} {B M : Nat} {L : Bfs.Nodes St} {v0 v1 v2 v3 : Value} (h : RS w1 wr B M L v0 v1 v2 v3) (hb : Below w0.heap.size w0 w1) : RS w0 wr B M L v0 v1 v2 v3 :=
 ⟨h.blk, Kd.R_lower h.r0 hb.size, Kd.R_lower h.r1 hb.size, Kd.R_lower h.r2 hb.size, Kd.R_lower h.r3 hb.size, h.map, h.ne, below_then hb hb.size h.bel, Nat.le_trans hb.size h.big, Nat.le_trans hb.size h.bigM⟩
theorem dirOf_byt (i : Nat) (hi : i < 4) : dirOf (byt i) = i := by
 rcases i with _ | _ | _ | _ | i
 ·rfl
 ·rfl
 ·rfl
 ·rfl
 ·omega
theorem grid_pos (s : ByteArray) (h : IsB okL s.data.toList) : 0 < (gridOf s).length := by
 have h1 := grid_length s
 have h2 := h.h1
 omega
abbrev askL (s : ByteArray) (t : St) : Bool := askB s t.x t.y t.d.t t.d.n t.d.e t.d.s t.d.w t.d.b
theorem ask_gd {s : ByteArray} {t : St} (h : askL s t = true) (hm : mB s.data.toList t = true) : IsB okL s.data.toList ∧ GdL s.data.toList t := by
 unfold askL askB at h
 rw [Bool.and_eq_true] at h
 have h2 := h.2
 unfold stateB at h2
 rw [Bool.and_eq_true] at h2
 exact ⟨isB_iff.1 h.1, h2, hm⟩
theorem over_calls (s : ByteArray) (h : IsB okL s.data.toList) (t : St) (ht : GdL s.data.toList t) (i : Nat) (hi : i < 4) (A0 : Option Addr) (c0 : Nat) (W : World) (hr0 : Kd.C Kd.string W A0 (gridOf s).length (gridOf s)) (hc0 : (gridOf s).length ≤ c0) :
  Calls Tryd.prog 17 #[.slice A0 (gridOf s).length c0, .agg (st8 t), .int .u8 (byt i)] W fun e w' => e = .returned (.tuple #[.agg (st8 (moved t i)), .bool (canL s.data.toList t i)]) ∧ Below W.heap.size W w' := by
 obtain ⟨⟨x0, x1⟩, y0, y1⟩ := (rules h).inn _ ht
 have h7 := h.h7
 have w7 := h.w7
 have he := overS_eq s h t (by omega) (by omega) (byt i) ht.2
 rw [dirOf_byt i hi] at he
 exact Go.Proofs.YtjeimidekekklaaDoor.Over.says_calls A0 c0 (gridOf s) t.x t.y t.d.t t.d.n t.d.e t.d.s t.d.w t.d.b (byt i) _ _ _ _ _ _ _ _ _ W hr0 hc0 he
theorem reached_calls (s : ByteArray) (h : IsB okL s.data.toList) (t : St) (ht : GdL s.data.toList t) (A0 : Option Addr) (c0 : Nat) (w : World) (hr0 : Kd.C Kd.string w A0 (gridOf s).length (gridOf s)) (hc0 : (gridOf s).length ≤ c0) :
  Calls Tryd.prog 16 #[.agg (st8 t), .func (.func 17) #[.slice A0 (gridOf s).length c0] #[]] w fun e w' =>
   ∃ B M v0 v1 v2 v3, e = .returned (.pointer (some ⟨B, 0, none⟩)) ∧ RS w w' B M (found (canL s.data.toList) t) v0 v1 v2 v3 :=
 Go.Proofs.YtjeimidekekklaaDoor.Reached.reached_walk t _ moved (canL s.data.toList) (GdL s.data.toList) w ht (fun t i hg hi W hb => over_calls s h t hg i hi A0 c0 W (Kd.C_below hr0 hb) hc0) (fun t i hg _ hc => (rules h).go t i hg hc) (fun L k i hi => Nat.le_trans (small (rules h) ht L k i hi) (by decide))
def cntL (s : ByteArray) (t : St) : Int := if askL s t = true then (if mB s.data.toList t = true then ((found (canL s.data.toList) t).length : Int) else 0) else 0
set_option maxHeartbeats 4000000 in
set_option maxRecDepth 100000 in
theorem count_walk (s : ByteArray) (hs : s.size ≤ 1048576) (t : St) (w : World) : Calls Tryd.prog 7 #[.string s, .agg (st8 t)] w fun e w' =>
  e = .returned (.tuple #[.int .i64 (cntL s t), .bool (askL s t)]) ∧ Below w.heap.size w w' := by
 obtain ⟨g, h1, h2⟩ := onLabels_at s hs t.x t.y t.d.t t.d.n t.d.e t.d.s t.d.w t.d.b (s.size + 3) (by omega)
 unfold cntL
 cases ha : askL s t with
 | false =>
  have ha' : askB s t.x t.y t.d.t t.d.n t.d.e t.d.s t.d.w t.d.b = false := ha
  rw [ha'] at h1
  have HC := hid (fun W => impl_onLabels.calls _ _ _ _ _ _ _ _ _ _ _ _ W h1)
  rw [if_neg (by decide)]
  clear ha ha' h1 h2
  go_enter Tryd.func7, Tryd.ntmps7
  go_wp2_with fail
  refine (HC.out _).mono ?_
  rintro e' w1 ⟨v0, rfl, hr, hb⟩
  have HB := hid (below_then ((Below.refl _ w).alloc (Nat.le_refl _) (.cells (st8 t) 30)) (by simp) hb)
  clear hr hb
  go_wp2_with fail
  go_ret2
  exact ⟨rfl, HB.out⟩
 | true =>
  have ha' : askB s t.x t.y t.d.t t.d.n t.d.e t.d.s t.d.w t.d.b = true := ha
  obtain rfl := h2 ha'
  rw [ha'] at h1
  obtain ⟨hi, _, _⟩ := ask_parts ha'
  have HC := hid (fun W => impl_onLabels.calls _ _ _ _ _ _ _ _ _ _ _ _ W h1)
  have HP := hid (grid_pos s hi)
  have hmt := matches_eq s hi t.x t.y t.d.t t.d.n t.d.e t.d.s t.d.w t.d.b
  have HM := hid (fun A0 c0 W hr hc => QBo.impl_grid_matches.calls A0 c0 (gridOf s) _ _ _ _ _ _ _ _ _ W hr hc hmt)
  rw [if_pos rfl]
  cases hm : mB s.data.toList t with
  | false =>
   have hm' : matchB s.data.toList t.x t.y t.d.t = false := hm
   rw [hm'] at HM
   rw [if_neg (by decide)]
   clear ha ha' h1 h2 hi hmt hm hm'
   obtain ⟨gr, hgr⟩ : ∃ gr, gr = gridOf s := ⟨_, rfl⟩
   rw [← hgr] at HC HP HM
   clear hgr
   go_enter Tryd.func7, Tryd.ntmps7
   go_wp2_with fail
   refine (HC.out _).mono ?_
   rintro e' w1 ⟨v0, rfl, hr, hb⟩
   have BT := hid (blk_below (blk_new w (.cells (st8 t) 30)) hb)
   have HB := hid (below_then ((Below.refl _ w).alloc (Nat.le_refl _) (.cells (st8 t) 30)) (by simp) hb)
   obtain ⟨b, c, hv, _, _⟩ := R_form hr HP.out
   subst hv
   have HRD := hid (Kd.R_reads' hr).2
   clear hr hb
   have c0 : w1.cell? ⟨w.heap.size, 0, none⟩ = some (.int .i64 t.x) := blk_cell BT.out 0
   have c1 : w1.cell? ⟨w.heap.size, 1, none⟩ = some (.int .i64 t.y) := blk_cell BT.out 1
   have c2 : w1.cell? ⟨w.heap.size, 2, none⟩ = some (.int .i64 t.d.t) := blk_cell BT.out 2
   have c3 : w1.cell? ⟨w.heap.size, 3, none⟩ = some (.int .i64 t.d.n) := blk_cell BT.out 3
   have c4 : w1.cell? ⟨w.heap.size, 4, none⟩ = some (.int .i64 t.d.e) := blk_cell BT.out 4
   have c5 : w1.cell? ⟨w.heap.size, 5, none⟩ = some (.int .i64 t.d.s) := blk_cell BT.out 5
   have c6 : w1.cell? ⟨w.heap.size, 6, none⟩ = some (.int .i64 t.d.w) := blk_cell BT.out 6
   have c7 : w1.cell? ⟨w.heap.size, 7, none⟩ = some (.int .i64 t.d.b) := blk_cell BT.out 7
   go_wp2_with fail
   refine (HM.out _ _ w1 HRD.out.2 HRD.out.1).mono ?_
   rintro e' w2 ⟨rfl, hb⟩
   have HB2 := hid (below_then HB.out HB.out.size hb)
   clear hb HB c0 c1 c2 c3 c4 c5 c6 c7
   go_wp2_with fail
   go_ret2
   exact ⟨rfl, HB2.out⟩
  | true =>
   have hm' : matchB s.data.toList t.x t.y t.d.t = true := hm
   obtain ⟨_, hgd⟩ := ask_gd ha hm
   have HR := hid (fun A0 c0 W => reached_calls s hi t hgd A0 c0 W)
   have HPOS := hid (found_pos (rules hi) hgd)
   rw [hm'] at HM
   rw [if_pos rfl]
   clear hgd
   clear ha ha' h1 h2 hi hmt hm hm'
   obtain ⟨gr, hgr⟩ : ∃ gr, gr = gridOf s := ⟨_, rfl⟩
   rw [← hgr] at HC HP HM HR
   clear hgr
   go_enter Tryd.func7, Tryd.ntmps7
   go_wp2_with fail
   refine (HC.out _).mono ?_
   rintro e' w1 ⟨v0, rfl, hr, hb⟩
   have BT := hid (blk_below (blk_new w (.cells (st8 t) 30)) hb)
   have HB := hid (below_then ((Below.refl _ w).alloc (Nat.le_refl _) (.cells (st8 t) 30)) (by simp) hb)
   obtain ⟨b, c, hv, _, _⟩ := R_form hr HP.out
   subst hv
   have HRD := hid (Kd.R_reads' hr).2
   clear hr hb
   have c0 : w1.cell? ⟨w.heap.size, 0, none⟩ = some (.int .i64 t.x) := blk_cell BT.out 0
   have c1 : w1.cell? ⟨w.heap.size, 1, none⟩ = some (.int .i64 t.y) := blk_cell BT.out 1
   have c2 : w1.cell? ⟨w.heap.size, 2, none⟩ = some (.int .i64 t.d.t) := blk_cell BT.out 2
   have c3 : w1.cell? ⟨w.heap.size, 3, none⟩ = some (.int .i64 t.d.n) := blk_cell BT.out 3
   have c4 : w1.cell? ⟨w.heap.size, 4, none⟩ = some (.int .i64 t.d.e) := blk_cell BT.out 4
   have c5 : w1.cell? ⟨w.heap.size, 5, none⟩ = some (.int .i64 t.d.s) := blk_cell BT.out 5
   have c6 : w1.cell? ⟨w.heap.size, 6, none⟩ = some (.int .i64 t.d.w) := blk_cell BT.out 6
   have c7 : w1.cell? ⟨w.heap.size, 7, none⟩ = some (.int .i64 t.d.b) := blk_cell BT.out 7
   obtain ⟨L, hL⟩ : ∃ L, L = found (canL s.data.toList) t := ⟨_, rfl⟩
   rw [← hL] at HR HPOS
   have HL := hid hL
   clear hL
   go_wp2_with fail
   refine (HM.out _ _ w1 HRD.out.2 HRD.out.1).mono ?_
   rintro e' w2 ⟨rfl, hb⟩
   have BT2 := hid (blk_below BT.out hb)
   have HB2 := hid (below_then HB.out HB.out.size hb)
   have HC2 := hid (Kd.C_below HRD.out.2 hb)
   clear hb HB BT c0 c1 c2 c3 c4 c5 c6 c7
   have d0 : w2.cell? ⟨w.heap.size, 0, none⟩ = some (.int .i64 t.x) := blk_cell BT2.out 0
   have d1 : w2.cell? ⟨w.heap.size, 1, none⟩ = some (.int .i64 t.y) := blk_cell BT2.out 1
   have d2 : w2.cell? ⟨w.heap.size, 2, none⟩ = some (.int .i64 t.d.t) := blk_cell BT2.out 2
   have d3 : w2.cell? ⟨w.heap.size, 3, none⟩ = some (.int .i64 t.d.n) := blk_cell BT2.out 3
   have d4 : w2.cell? ⟨w.heap.size, 4, none⟩ = some (.int .i64 t.d.e) := blk_cell BT2.out 4
   have d5 : w2.cell? ⟨w.heap.size, 5, none⟩ = some (.int .i64 t.d.s) := blk_cell BT2.out 5
   have d6 : w2.cell? ⟨w.heap.size, 6, none⟩ = some (.int .i64 t.d.w) := blk_cell BT2.out 6
   have d7 : w2.cell? ⟨w.heap.size, 7, none⟩ = some (.int .i64 t.d.b) := blk_cell BT2.out 7
   go_wp2_with fail
   refine (HR.out _ _ w2 HC2.out HRD.out.1).mono ?_
   rintro e' w3 ⟨B, M, v0, v1, v2, v3, rfl, hrs⟩
   have HS := hid (RS_lower hrs HB2.out)
   obtain ⟨g, c, hv, _, _⟩ := R_form hrs.r0 (by rw [List.length_map]; exact HPOS.out)
   rw [List.length_map] at hv
   have k0 : w3.cell? ⟨B, 0, none⟩ = some v0 := blk_cell hrs.blk 0
   subst hv
   clear hrs d0 d1 d2 d3 d4 d5 d6 d7
   go_wp2_with fail
   go_ret2
   exact ⟨by rw [HL.out]; rfl, HS.out.bel⟩
end Go.Proofs.YtjeimidekekklaaDoor.CountL
