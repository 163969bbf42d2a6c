/- The program's ShortestWay, walked. Conditions: a text of no more than 2^20 bytes. -/
import Derived.Test.YthfeiklaoljdnaaDoorAt
import Derived.Test.YthfeiklaoljdnaaDoorWordR
namespace Go.Proofs.YthfeiklaoljdnaaDoor.ShortW
open Go.RowKit Go.Proofs.YthfeiklaoljdnaaDoorW.PrintWords Go.Proofs.YthfeiklaoljdnaaDoor.Board Go.Proofs.YthfeiklaoljdnaaDoor.BaseR Go.Proofs.YthfeiklaoljdnaaDoor.ReachR Go.Proofs.YthfeiklaoljdnaaDoor.Search Go.Proofs.YthfeiklaoljdnaaDoor.On Go.Proofs.YthfeiklaoljdnaaDoor.To
open Go.Proofs.YthfeiklaoljdnaaDoor.Reach (St)
set_option linter.unusedVariables false
set_option linter.unusedSimpArgs false

open Go.Proofs.YthfeiklaoljdnaaDoor.WordR (wordS word_walk)
def wdI (L : Bfs.Nodes St) (j : Int) : List Nat := (L.getD j.toNat (⟨0, 0, ⟨0, 0, 0, 0, 0, 0⟩⟩, [])).2
def goesB (s : ByteArray) (t u : St) : Bool := toOk s t u && decide (0 ≤ atI (found (fl s) t) u)
def wayTo (s : ByteArray) (t u : St) : ByteArray := if goesB s t u = true then wordS (wdI (found (fl s) t) (atI (found (fl s) t) u)) else ⟨#[]⟩
def wayOk (s : ByteArray) (t u : St) : Bool := goesB s t u && decide ((wdI (found (fl s) t) (atI (found (fl s) t) u)).length ≤ 60)
set_option maxHeartbeats 4000000 in
set_option maxRecDepth 100000 in
theorem short_walk (s : ByteArray) (hs : s.size ≤ 1048576) (t u : St) (w : World) : Calls Tryd.prog 26 #[.string s, .agg (st8 t), .agg (st8 u)] w fun e w' =>
  e = .returned (.tuple #[.string (wayTo s t u), .bool (wayOk s t u)]) ∧ Below w.heap.size w w' := by
 unfold wayTo wayOk goesB
 cases ha : toOk s t u with
 | false =>
  have HC := Go.Lib.hid (fun W => to_no s hs t u ha W)
  rw [Bool.false_and, if_neg (by decide), Bool.false_and]
  clear ha
  go_enter Tryd.func26, Tryd.ntmps26
  go_wp2_with fail
  refine (HC.out _).mono ?_
  rintro e' w1 ⟨rfl, hb⟩
  have HB := Go.Lib.hid (below_then (((Below.refl _ w).alloc (Nat.le_refl _) (.cells (st8 t) 30)).alloc (by simp) (.cells (st8 u) 30)) (by simp; omega) hb)
  clear hb
  go_wp2_with fail
  go_ret2
  exact ⟨rfl, HB.out⟩
 | true =>
  have HC := Go.Lib.hid (fun W => to_yes s hs t u ha W)
  rw [Bool.true_and]
  obtain ⟨hi, hg⟩ := ask_iff.1 (by unfold toOk at ha; rw [Bool.and_eq_true] at ha; exact ha.1)
  have HD := Go.Lib.hid (found_done (box hi) hg)
  have HLN := Go.Lib.hid (found_length (box hi) hg)
  clear ha hi hg
  obtain ⟨L, hL⟩ : ∃ L, L = found (fl s) t := ⟨_, rfl⟩
  rw [← hL] at HC HD HLN ⊢
  clear hL
  by_cases hlt : 0 ≤ atI L u
  ·obtain ⟨j, wd, hj, hx⟩ := At.at_some hlt
   rw [if_pos (decide_eq_true hlt), decide_eq_true hlt]
   rw [hj] at HC ⊢
   have hwd : wdI L (j : Int) = wd := by
    unfold wdI
    rw [Int.toNat_natCast, List.getD_eq_getElem?_getD, hx]
    rfl
   rw [hwd, Bool.true_and]
   have HX := Go.Lib.hid hx
   clear hlt hj hx hwd
   go_enter Tryd.func26, Tryd.ntmps26
   go_wp2_with fail
   refine (HC.out _).mono ?_
   rintro e' w1 ⟨B, M, v0, v1, v2, v3, rfl, hrs⟩
   have HB := Go.Lib.hid (below_then (((Below.refl _ w).alloc (Nat.le_refl _) (.cells (st8 t) 30)).alloc (by simp) (.cells (st8 u) 30)) (by simp; omega) hrs.bel)
   have HW := Go.Lib.hid (word_walk _ w1 B M L v0 v1 v2 v3 hrs HD.out (by have := HLN.out; omega) j u wd HX.out)
   have hj0 : (0 : Int) ≤ (j : Int) := by omega
   clear hrs
   go_wp2_with fail
   refine HW.out.mono ?_
   rintro e' w2 ⟨rfl, hb2⟩
   have HB2 := Go.Lib.hid (below_then HB.out HB.out.size hb2)
   clear hb2 HB HW
   go_wp2_with fail
   go_ret2
   exact ⟨rfl, HB2.out⟩
  ·rw [if_neg (by simpa using hlt), decide_eq_false hlt, Bool.false_and]
   have hj := At.at_neg hlt
   rw [hj] at HC
   clear hlt hj
   go_enter Tryd.func26, Tryd.ntmps26
   go_wp2_with fail
   refine (HC.out _).mono ?_
   rintro e' w1 ⟨B, M, v0, v1, v2, v3, rfl, hrs⟩
   have HB := Go.Lib.hid (below_then (((Below.refl _ w).alloc (Nat.le_refl _) (.cells (st8 t) 30)).alloc (by simp) (.cells (st8 u) 30)) (by simp; omega) hrs.bel)
   clear hrs
   go_wp2_with fail
   go_ret2
   exact ⟨rfl, HB.out⟩
end Go.Proofs.YthfeiklaoljdnaaDoor.ShortW
