/- Plain law: the word to the first state at a cell is the reference's. Conditions: none. -/
import Derived.Test.YthfeiklaoljdnaaDoorQWtx
import Derived.Test.YthfeiklaoljdnaaDoorFirstT
import Derived.Test.YthfeiklaoljdnaaDoorWord2
namespace Go.Proofs.YthfeiklaoljdnaaDoor.PureWt
open Go.RowKit Go.Proofs.YthfeiklaoljdnaaDoor.QWt Go.Proofs.YthfeiklaoljdnaaDoor.Board Go.Proofs.YthfeiklaoljdnaaDoor.BaseR Go.Proofs.YthfeiklaoljdnaaDoor.Search Go.Proofs.YthfeiklaoljdnaaDoor.On Go.Proofs.YthfeiklaoljdnaaDoor.FirstT Go.Proofs.YthfeiklaoljdnaaDoor.WyR
open Go.Proofs.YthfeiklaoljdnaaDoor.Reach (St)
set_option linter.unusedVariables false
set_option linter.unusedSimpArgs false

def testG (x y top : Int) (t : St) : Bool := decide (t.x = x ∧ t.y = y ∧ (top < 0 ∨ t.d.t = top))
section
variable {mv : St → Nat → Option St} {s0 : St} {L : Bfs.Nodes St} (hd : Bfs.Done mv s0 L) {ns : List Nd} (hp : WyPj.Pj ns L) (x y top : Int)
include hp
theorem step_l0 (i k : Nat) (hi : i < L.length) (u : St) (wd : List Nat) (hx : L[i]? = some (u, wd)) :
    WyFirst.firstW (ns.map sNd) x y top (k + 1) i = if testG x y top u = true ∧ wd.length ≤ 60 then ((WyWord.back (ns.map sNd) (ns.length + 1) (i : Int) ⟨#[]⟩).bind fun t => some (t, true)) else WyFirst.firstW (ns.map sNd) x y top k (i + 1) := by
  have hin : i < ns.length := by rw [hp.len]; exact hi
  obtain ⟨hs, hf, _, _⟩ := hp.at (List.getElem?_eq_getElem hin) hx
  have hr : QBs.rd_T69 (ns.map sNd) (i : Int) = sNd ns[i] := by simp [QBs.rd_T69, List.getD, hin]
  rw [WyFirst.firstW, List.length_map, if_pos hin, hr]
  simp only at hs hf
  have e : WyFirst.hit x y top (sNd ns[i]) = true ↔ (testG x y top u = true ∧ wd.length ≤ 60) := by
    unfold WyFirst.hit testG
    rw [decide_eq_true_eq, decide_eq_true_eq]
    show (ns[i].s.x = x ∧ ns[i].s.y = y ∧ (top < 0 ∨ ns[i].s.d.t = top)) ∧ ns[i].far ≤ 60 ↔ _
    rw [hs, hf]
    constructor
    · rintro ⟨h1, h2⟩
      exact ⟨h1, by omega⟩
    · rintro ⟨h1, h2⟩
      exact ⟨h1, by omega⟩
  by_cases hc : testG x y top u = true ∧ wd.length ≤ 60
  · rw [if_pos hc, if_pos (e.2 hc)]
  · rw [if_neg hc, if_neg (fun h => hc (e.1 h))]
theorem end_l0 (i k : Nat) (hi : L.length ≤ i) : WyFirst.firstW (ns.map sNd) x y top (k + 1) i = some (⟨#[]⟩, false) := by
  rw [WyFirst.firstW, List.length_map, if_neg (by rw [hp.len]; omega)]
theorem late_l0 (i0 : Nat) (hlate : ∀ j v, i0 ≤ j → L[j]? = some v → 60 < v.2.length) : ∀ (d i k : Nat), i0 ≤ i → i + d = L.length → d < k → WyFirst.firstW (ns.map sNd) x y top k i = some (⟨#[]⟩, false) := by
  intro d
  induction d with
  | zero =>
    intro i k hi0 hi hk
    obtain ⟨k, rfl⟩ : ∃ m, k = m + 1 := ⟨k - 1, by omega⟩
    exact end_l0 hp x y top i k (by omega)
  | succ d ih =>
    intro i k hi0 hi hk
    obtain ⟨k, rfl⟩ : ∃ m, k = m + 1 := ⟨k - 1, by omega⟩
    have hlt : i < L.length := by omega
    have hx : L[i]? = some (L[i].1, L[i].2) := List.getElem?_eq_getElem hlt
    have h60 := hlate i _ hi0 hx
    rw [step_l0 hp x y top i k hlt _ _ hx, if_neg (fun h => by have := h.2; simp only at h60; omega)]
    exact ih (i + 1) k (by omega) (by omega) (by omega)
include hd
theorem first_l0 : ∀ (d i k : Nat), i + d = L.length → d < k → WyFirst.firstW (ns.map sNd) x y top k i =
    some (toS L (firstI (testG x y top) i ((L.map (·.1)).drop i)), toB L (firstI (testG x y top) i ((L.map (·.1)).drop i))) := by
  intro d
  induction d with
  | zero =>
    intro i k hi hk
    obtain ⟨k, rfl⟩ : ∃ m, k = m + 1 := ⟨k - 1, by omega⟩
    rw [end_l0 hp x y top i k (by omega), List.drop_eq_nil_of_le (by rw [List.length_map]; omega), firstI]
    rfl
  | succ d ih =>
    intro i k hi hk
    obtain ⟨k, rfl⟩ : ∃ m, k = m + 1 := ⟨k - 1, by omega⟩
    have hlt : i < L.length := by omega
    obtain ⟨⟨u, wd⟩, hx⟩ : ∃ v, L[i]? = some v := ⟨_, List.getElem?_eq_getElem hlt⟩
    have hlm : i < (L.map (·.1)).length := by rw [List.length_map]; exact hlt
    have hu : (L.map (·.1))[i] = u := by
      rw [List.getElem_map]
      have := (List.getElem?_eq_some_iff.1 hx).2
      rw [this]
    rw [step_l0 hp x y top i k hlt u wd hx]
    by_cases hT : testG x y top u = true
    · rw [first_hit (P := testG x y top) hlm (by rw [hu]; exact hT)]
      have hwi : wordI L (i : Int) = wd := by
        unfold wordI
        rw [Int.toNat_natCast, List.getD_eq_getElem?_getD, hx]
        rfl
      unfold toS toB
      rw [hwi, if_pos (show (0 : Int) ≤ (i : Int) by omega), decide_eq_true (show (0 : Int) ≤ (i : Int) by omega), Bool.true_and]
      unfold WordR.wordS
      by_cases h60 : wd.length ≤ 60
      · have hbk := Word2.back_eq hd _ hp i (ns.length + 1) _ ⟨#[]⟩ hx (by rw [hp.len]; omega)
        have hemp : WordR.textOf wd ++ (⟨#[]⟩ : ByteArray) = WordR.textOf wd := by
          apply ByteArray.ext
          simp [ByteArray.data_append]
        rw [hemp] at hbk
        rw [if_pos ⟨hT, h60⟩, if_pos h60, decide_eq_true h60, hbk]
        rfl
      · rw [if_neg (fun h => h60 h.2), if_neg h60, decide_eq_false h60]
        exact late_l0 hp x y top i (fun j v hj hv => by have := Reach.far_mono hd.rising hx hv hj; simp only at this; omega) d (i + 1) k (by omega) (by omega) (by omega)
    · rw [if_neg (fun h => hT h.1), first_drop (P := testG x y top) hlm (by rw [hu]; simpa using hT)]
      exact ih (i + 1) k (by omega) (by omega)
end
theorem ask_eq (s : ByteArray) (x y a0 a1 a2 a3 a4 a5 : Int) (k : Nat) (hk : 3 * s.size + 10 < k) :
    spec_boAsked.f k s x y a0 a1 a2 a3 a4 a5 = some (if isB okB s.data.toList = true then ((wide s.data.toList : Int), (high s.data.toList : Int), ints (cells s.data.toList), stateB s.data.toList x y a0 a1 a2 a3 a4 a5) else nope) := asked_at s x y a0 a1 a2 a3 a4 a5 k hk
theorem wyCell_at (s : ByteArray) (t : St) (x y : Int) (k : Nat) (hk : 3 * s.size + 1100 < k) : spec_wyCell.f k s t.x t.y t.d.t t.d.n t.d.e t.d.s t.d.w t.d.b x y =
    some (if cellOk s t x y = true then ((nodes (fl s) (wide s.data.toList) t).map sNd, true) else ([], false)) := by
  unfold spec_wyCell.f cellOk
  rw [ask_eq s _ _ _ _ _ _ _ _ _ (by omega), Option.bind_some]
  cases hc : isB okB s.data.toList with
  | false =>
    have ha : askB s t = false := by
      unfold askB
      rw [hc]
      rfl
    rw [ha]
    rfl
  | true =>
    have hi := isB_iff.1 hc
    rw [if_pos rfl]
    simp only
    cases hst : stateB s.data.toList t.x t.y t.d.t t.d.n t.d.e t.d.s t.d.w t.d.b with
    | false =>
      have ha : askB s t = false := by
        unfold askB
        rw [hc, hst]
        rfl
      rw [ha]
      rfl
    | true =>
      have ha : askB s t = true := by
        unfold askB
        rw [hc, hst]
        rfl
      rw [if_pos rfl, show spec_boCell.f _ _ _ _ _ = _ from cell_eq s.data.toList hi (ints (cells s.data.toList)) x y, Option.bind_some, ha, Bool.true_and]
      cases hasB s.data.toList x y with
      | false => rfl
      | true =>
        obtain ⟨_, hg⟩ := ask_iff.1 ha
        have h1 := wyF_eq hi hg
        rw [if_pos rfl, if_pos rfl, spec_wyAll.f, h1]
        rfl
theorem wayToTop (s : ByteArray) (x y a0 a1 a2 a3 a4 a5 z v top : Int) : ∃ k, laws_FnExactWayToTop.f k s x y a0 a1 a2 a3 a4 a5 z v top = some true := by
  refine ⟨3 * s.size + 1101, ?_⟩
  unfold laws_FnExactWayToTop.f
  by_cases h : (s.size : Int) > 1048576
  · rw [if_pos h]
  · have hw := wyCell_at s ⟨x, y, ⟨a0, a1, a2, a3, a4, a5⟩⟩ z v (3 * s.size + 1101) (by omega)
    simp only at hw
    rw [if_neg h]
    simp only [laws_toState.f, laws_toDie.f, Option.bind_some]
    rw [spec_WayToTop.f, impl_WayToTop.f, hw, if_pos (show s.size ≤ 1048576 by omega)]
    unfold wayS wayB okF
    cases ha : cellOk s ⟨x, y, ⟨a0, a1, a2, a3, a4, a5⟩⟩ z v with
    | false => simp
    | true =>
      have hca := ha
      unfold cellOk at hca
      rw [Bool.and_eq_true] at hca
      obtain ⟨hi, hg⟩ := ask_iff.1 hca.1
      have hp := nodes_q (box hi) hg
      have hd := found_done (box hi) hg
      have hlen := found_length (box hi) hg
      have hf := first_l0 hd hp z v top (found (fl s) ⟨x, y, ⟨a0, a1, a2, a3, a4, a5⟩⟩).length 0 ((nodes (fl s) (wide s.data.toList) ⟨x, y, ⟨a0, a1, a2, a3, a4, a5⟩⟩).length + 1) (Nat.zero_add _) (by rw [hp.len]; exact Nat.lt_succ_self _)
      rw [if_pos rfl]
      simp only [Option.bind_some, if_true, Bool.true_and]
      rw [show spec_l1In.f top 0 9 = _ from l1In_eq top, Option.bind_some]
      cases hb : IsDie.inB top with
      | false => simp
      | true =>
        obtain ⟨h0, h9⟩ := (IsDie.inB_iff top).1 hb
        have htest : testG z v top = test z v top := by
          funext t
          unfold testG test
          rw [Bool.eq_iff_iff]
          have hn : ¬ top < 0 := by omega
          simp [hn, and_assoc]
        rw [List.drop_zero, htest] at hf
        simp only [if_true, Bool.true_and]
        rw [spec_wyFirst.f, List.length_map, if_pos (show (nodes (fl s) (wide s.data.toList) ⟨x, y, ⟨a0, a1, a2, a3, a4, a5⟩⟩).length ≤ 1000000 by rw [hp.len]; exact Nat.le_trans hlen (by decide)), hf]
        unfold atF
        simp
end Go.Proofs.YthfeiklaoljdnaaDoor.PureWt
