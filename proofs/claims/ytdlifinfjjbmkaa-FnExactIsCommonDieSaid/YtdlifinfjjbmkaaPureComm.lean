/- The plain law on IsCommonDie: the sorted numbers are 1 to 6 just where all lie in 1 to 6 and differ. Conditions: none. -/
import Derived.Test.YtdlifinfjjbmkaaQCommx
import Derived.Test.YtdlifinfjjbmkaaCommon
namespace Go.Proofs.Ytdlifinfjjbmkaa.PureComm
open Go.RowKit Go.Proofs.Ytdlifinfjjbmkaa.QComm Go.Proofs.YtdlifinfjjbmkaaW.PrintWords Go.Proofs.YtdlifinfjjbmkaaW.PrintLast Go.Proofs.Ytdlifinfjjbmkaa.Common Go.Proofs.Ytdlifinfjjbmkaa.Sorted
set_option linter.unusedVariables false
set_option linter.unusedSimpArgs false

theorem succ_wrap {i : Nat} (h : i < 1000000) : wrap64 ((i : Int) + 1) = ((i + 1 : Nat) : Int) := by
  unfold wrap64
  omega
def opp (i : Nat) : Nat := if i = 0 then 5 else if i = 1 then 3 else if i = 2 then 4 else if i = 3 then 1 else if i = 4 then 2 else 0
theorem across (p : Nat) (hp : p < 6) : spec_diAcross.f p = some ((opp p : Nat) : Int) := by
  rcases p with _ | _ | _ | _ | _ | _ | p
  · rfl
  · simp [spec_diAcross.f, opp, wrap64]
  · simp [spec_diAcross.f, opp, wrap64]
  · simp [spec_diAcross.f, opp, wrap64]
  · simp [spec_diAcross.f, opp, wrap64]
  · simp [spec_diAcross.f, opp, wrap64]
  · omega
theorem opp_lt (p : Nat) : opp p < 6 := by unfold opp; (repeat' split) <;> omega

def in16 (n : Int) : Bool := decide (1 ≤ n) && decide (n ≤ 6)
theorem l1In_eq (n : Int) : spec_l1In.f n 1 6 = some (in16 n) := by
  unfold spec_l1In.f in16
  by_cases h : 1 ≤ n
  · rw [if_pos h]
    simp [h]
  · rw [if_neg h]
    simp [h]

theorem has_at (x : Int) (xs : List Int) (hl : xs.length ≤ 1000) : ∀ (d i k : Nat), i + d = xs.length → d < k → spec_l1Has.l0 k x xs xs.length i = some ((xs.drop i).any (· == x)) := by
  intro d
  induction d with
  | zero =>
    intro i k hi hk
    obtain ⟨k, rfl⟩ : ∃ m, k = m + 1 := ⟨k - 1, by omega⟩
    rw [spec_l1Has.l0, if_neg (by omega), List.drop_eq_nil_of_le (by omega)]
    rfl
  | succ d ih =>
    intro i k hi hk
    obtain ⟨k, rfl⟩ : ∃ m, k = m + 1 := ⟨k - 1, by omega⟩
    have hlt : i < xs.length := by omega
    rw [spec_l1Has.l0, if_pos (by omega), if_pos (by omega), if_pos (by omega)]
    rw [List.drop_eq_getElem_cons hlt, List.any_cons]
    have hr : rd xs i = xs[i] := by simp [rd, hlt]
    rw [hr]
    by_cases h : xs[i] = x
    · rw [if_pos h]
      simp [h]
    · rw [if_neg h, succ_wrap (by omega), ih (i + 1) k (by omega) (by omega)]
      simp [h]

/-- What is asked of one face. -/
def ask (f : List Int) (i : Nat) : Bool := in16 (f.getD i 0) && (!(f.take i).any (· == f.getD i 0) && decide (wrap64 (f.getD i 0 + f.getD (opp i) 0) = 7))

theorem loop_at (f : List Int) (hf : f.length = 6) : ∀ (d i k : Nat), i + d = 6 → d + 10 < k → spec_IsCommonDie.l0 k f f (f.length : Int) i = some ((List.range' i d).all (ask f)) := by
  intro d
  induction d with
  | zero =>
    intro i k hi hk
    obtain ⟨k, rfl⟩ : ∃ m, k = m + 1 := ⟨k - 1, by omega⟩
    rw [spec_IsCommonDie.l0, if_neg (by omega)]
    rfl
  | succ d ih =>
    intro i k hi hk
    obtain ⟨k, rfl⟩ : ∃ m, k = m + 1 := ⟨k - 1, by omega⟩
    have hr : ∀ j : Nat, rd f j = f.getD j 0 := fun j => rfl
    have h1 : spec_l1Has.f k (f.take i) (f.getD i 0) = some ((f.take i).any (· == f.getD i 0)) := by
      have := has_at (f.getD i 0) (f.take i) (by simp; omega) (f.take i).length 0 k (by simp) (by simp; omega)
      rw [List.drop_zero] at this
      exact this
    rw [spec_IsCommonDie.l0, if_pos (by omega), if_pos (by omega), if_pos (by omega), hr, l1In_eq, Option.bind_some, List.range'_succ, List.all_cons]
    cases h2 : in16 (f.getD i 0) with
    | false =>
      rw [if_neg (by decide), ask, h2]
      rfl
    | true =>
      rw [if_pos rfl, if_pos (by omega), Int.toNat_natCast, h1, Option.bind_some]
      cases h3 : (f.take i).any (· == f.getD i 0) with
      | true =>
        rw [if_pos rfl, ask, h2, h3]
        rfl
      | false =>
        have := opp_lt i
        rw [if_neg (by decide), across i (by omega), Option.bind_some, if_pos (by omega), if_pos (by omega), hr]
        by_cases h4 : wrap64 (f.getD i 0 + f.getD (opp i) 0) = 7
        · rw [if_pos h4, succ_wrap (by omega), ih (i + 1) k (by omega) (by omega), ask, h2, h3, decide_eq_true h4]
          rfl
        · rw [if_neg h4, ask, h2, h3, decide_eq_false h4]
          rfl

def specB (f : List Int) : Bool := (List.range' 0 6).all (ask f)

theorem perm_iff (l : List Int) : (inOrder l == [1, 2, 3, 4, 5, 6]) = l.isPerm [1, 2, 3, 4, 5, 6] := by
  rw [Bool.eq_iff_iff, beq_iff_eq, List.isPerm_iff]
  constructor
  · intro h
    rw [← h]
    exact (List.mergeSort_perm l _).symm
  · intro h
    have hp : (inOrder l).Perm [1, 2, 3, 4, 5, 6] := (List.mergeSort_perm l _).trans h
    have hs : (inOrder l).Pairwise (fun x y => decide (x ≤ y) = true) := List.pairwise_mergeSort (fun a b c => by simp; omega) (fun a b => by simp; omega) l
    refine hp.eq_of_pairwise (le := fun x y => decide (x ≤ y) = true) ?_ hs (by decide)
    intro a b _ _ h1 h2
    simp at h1 h2
    omega

def near (a0 a1 a2 : Int) : Bool := specB [a0, a1, a2, 7 - a1, 7 - a2, 7 - a0] == List.isPerm [a0, a1, a2, 7 - a1, 7 - a2, 7 - a0] [1, 2, 3, 4, 5, 6]
theorem near_all : ([1, 2, 3, 4, 5, 6] : List Int).all (fun a0 => ([1, 2, 3, 4, 5, 6] : List Int).all fun a1 => ([1, 2, 3, 4, 5, 6] : List Int).all fun a2 => near a0 a1 a2) = true := by kernel_rfl
theorem mem16 {x : Int} (h : 1 ≤ x ∧ x ≤ 6) : x ∈ ([1, 2, 3, 4, 5, 6] : List Int) := by
  have : x = 1 ∨ x = 2 ∨ x = 3 ∨ x = 4 ∨ x = 5 ∨ x = 6 := by omega
  simpa using this
theorem near_at {a0 a1 a2 : Int} (h0 : 1 ≤ a0 ∧ a0 ≤ 6) (h1 : 1 ≤ a1 ∧ a1 ≤ 6) (h2 : 1 ≤ a2 ∧ a2 ≤ 6) :
    specB [a0, a1, a2, 7 - a1, 7 - a2, 7 - a0] = List.isPerm [a0, a1, a2, 7 - a1, 7 - a2, 7 - a0] [1, 2, 3, 4, 5, 6] := by
  have := List.all_eq_true.1 (List.all_eq_true.1 (List.all_eq_true.1 near_all a0 (mem16 h0)) a1 (mem16 h1)) a2 (mem16 h2)
  exact beq_iff_eq.1 this

theorem in16_iff {x : Int} : in16 x = true ↔ 1 ≤ x ∧ x ≤ 6 := by simp [in16]
theorem wrap7 {x y : Int} (hx : 1 ≤ x ∧ x ≤ 6) (hy : 1 ≤ y ∧ y ≤ 6) (h : wrap64 (x + y) = 7) : y = 7 - x := by
  unfold wrap64 at h
  omega

theorem same (a0 a1 a2 a3 a4 a5 : Int) : specB [a0, a1, a2, a3, a4, a5] = commonB a0 a1 a2 a3 a4 a5 := by
  unfold commonB
  rw [perm_iff]
  rw [Bool.eq_iff_iff]
  constructor
  · intro h
    have h' := List.all_eq_true.1 h
    have g : ∀ i, i < 6 → ask [a0, a1, a2, a3, a4, a5] i = true := fun i hi => h' i (by simp [List.mem_range'_1]; omega)
    have q0 := g 0 (by omega)
    have q1 := g 1 (by omega)
    have q2 := g 2 (by omega)
    have q3 := g 3 (by omega)
    have q4 := g 4 (by omega)
    have q5 := g 5 (by omega)
    simp only [ask, opp, Bool.and_eq_true, in16_iff, decide_eq_true_eq, List.getD_cons_zero, List.getD_cons_succ, reduceIte, Nat.reduceEqDiff] at q0 q1 q2 q3 q4 q5
    obtain rfl := wrap7 q0.1 q5.1 q0.2.2
    obtain rfl := wrap7 q1.1 q3.1 q1.2.2
    obtain rfl := wrap7 q2.1 q4.1 q2.2.2
    rw [near_at q0.1 q1.1 q2.1] at h
    simp [h, q0.2.2, q1.2.2, q2.2.2]
  · intro h
    simp only [Bool.and_eq_true, decide_eq_true_eq] at h
    obtain ⟨hp, s0, s1, s2⟩ := h
    have hm := List.isPerm_iff.1 hp
    have r : ∀ x ∈ [a0, a1, a2, a3, a4, a5], 1 ≤ x ∧ x ≤ 6 := by
      intro x hx
      have := hm.mem_iff.1 hx
      simp at this
      omega
    have r0 := r a0 (by simp)
    have r1 := r a1 (by simp)
    have r2 := r a2 (by simp)
    obtain rfl := wrap7 r0 (r a5 (by simp)) s0
    obtain rfl := wrap7 r1 (r a3 (by simp)) s1
    obtain rfl := wrap7 r2 (r a4 (by simp)) s2
    rw [near_at r0 r1 r2]
    exact hp

theorem isCommonDie (a0 a1 a2 a3 a4 a5 : Int) : ∃ k, laws_FnExactIsCommonDie.f k a0 a1 a2 a3 a4 a5 = some true := by
  refine ⟨17, ?_⟩
  have hs : spec_IsCommonDie.f 17 a0 a1 a2 a3 a4 a5 = some (specB [a0, a1, a2, a3, a4, a5]) := by
    rw [spec_IsCommonDie.f, spec_diFaces.f, Option.bind_some]
    exact loop_at [a0, a1, a2, a3, a4, a5] rfl 6 0 17 rfl (by omega)
  simp only [laws_FnExactIsCommonDie.f, laws_toDie.f, Option.bind_some, hs, impl_IsCommonDie.f, same]
  simp
end Go.Proofs.Ytdlifinfjjbmkaa.PureComm
