/- The program's CountReached, walked. Conditions: a text of no more than 2^20 bytes. -/
import Derived.Test.YthfeiklaoljdnaaDoorOn
namespace Go.Proofs.YthfeiklaoljdnaaDoor.CountR
open Go.RowKit Go.Proofs.YthfeiklaoljdnaaDoorW.PrintWords Go.Proofs.YthfeiklaoljdnaaDoor.Board Go.Proofs.YthfeiklaoljdnaaDoor.BaseR Go.Proofs.YthfeiklaoljdnaaDoor.ReachR Go.Proofs.YthfeiklaoljdnaaDoor.Search Go.Proofs.YthfeiklaoljdnaaDoor.On
open Go.Proofs.YthfeiklaoljdnaaDoor.Reach (St)
set_option linter.unusedVariables false
set_option linter.unusedSimpArgs false

set_option maxHeartbeats 4000000 in
set_option maxRecDepth 100000 in
theorem count_walk (s : ByteArray) (hs : s.size ≤ 1048576) (t : St) (w : World) : Calls Tryd.prog 13 #[.string s, .agg (st8 t)] w fun e w' =>
    e = .returned (.tuple #[.int .i64 (if askB s t = true then ((found (fl s) t).length : Int) else 0), .bool (askB s t)]) ∧ Below w.heap.size w w' := by
  cases ha : askB s t with
  | false =>
    have HC := Go.Lib.hid (fun W => on_no s hs t ha W)
    rw [if_neg (by decide)]
    clear ha
    go_enter Tryd.func13, Tryd.ntmps13
    go_wp2_with fail
    refine (HC.out _).mono ?_
    rintro e' w1 ⟨rfl, hb⟩
    have HB := Go.Lib.hid (below_then ((Below.refl _ w).alloc (Nat.le_refl _) (.cells (st8 t) 30)) (by simp) hb)
    clear hb
    go_wp2_with fail
    go_ret2
    exact ⟨rfl, HB.out⟩
  | true =>
    have HC := Go.Lib.hid (fun W => on_yes s hs t ha W)
    have hp := found_pos (box (ask_iff.1 ha).1) (ask_iff.1 ha).2
    rw [if_pos rfl]
    clear ha
    obtain ⟨L, hL⟩ : ∃ L, L = found (fl s) t := ⟨_, rfl⟩
    rw [← hL] at HC hp ⊢
    have HP := Go.Lib.hid hp
    clear hL hp
    go_enter Tryd.func13, Tryd.ntmps13
    go_wp2_with fail
    refine (HC.out _).mono ?_
    rintro e' w1 ⟨B, M, v0, v1, v2, v3, rfl, hrs⟩
    have HS := Go.Lib.hid (RS_lower hrs ((Below.refl _ w).alloc (Nat.le_refl _) (.cells (st8 t) 30)))
    clear hrs
    obtain ⟨g, c, hv, _, _⟩ := R_form HS.out.r0 (by rw [List.length_map]; exact HP.out)
    rw [List.length_map] at hv
    have c0 : w1.cell? ⟨B, 0, none⟩ = some v0 := blk_cell HS.out.blk 0
    have HB := Go.Lib.hid HS.out.bel
    clear HS
    subst hv
    go_wp2_with fail
    go_ret2
    exact ⟨rfl, HB.out⟩
end Go.Proofs.YthfeiklaoljdnaaDoor.CountR
