/- Plain law: how many tours there are from a state, as the program counts them and as the reference does. No program in sight. -/
namespace Go.Proofs.YtolopkjpodnmkaaDoor.Tour
set_option linter.unusedVariables false

def sumTo (f : Nat → Nat) : Nat → Nat
  | 0 => 0
  | n + 1 => sumTo f n + f n
theorem sumTo_congr {f g : Nat → Nat} : ∀ {n : Nat}, (∀ i, i < n → f i = g i) → sumTo f n = sumTo g n
  | 0, _ => rfl
  | n + 1, h => by rw [sumTo, sumTo, sumTo_congr (fun i hi => h i (by omega)), h n (by omega)]
theorem sumTo_le {f : Nat → Nat} {c : Nat} : ∀ {n : Nat}, (∀ i, i < n → f i ≤ c) → sumTo f n ≤ n * c
  | 0, _ => by simp [sumTo]
  | n + 1, h => by
    have h1 := sumTo_le (n := n) (fun i hi => h i (by omega))
    have h2 := h n (by omega)
    rw [sumTo, Nat.succ_mul]
    omega
def isIn {κ : Type} [DecidableEq κ] (x : κ) : List κ → Bool
  | [] => false
  | y :: l => if x = y then true else isIn x l
theorem isIn_iff {κ : Type} [DecidableEq κ] {x : κ} : ∀ {l : List κ}, isIn x l = true ↔ x ∈ l
  | [] => by simp [isIn]
  | y :: l => by
    unfold isIn
    by_cases h : x = y
    · simp [h]
    · rw [if_neg h, isIn_iff]
      simp [h]
section
variable {σ κ : Type} [DecidableEq κ] (can : σ → Nat → Bool) (mo : σ → Nat → σ) (lab mat : σ → Bool) (cell : σ → κ)
def A : Nat → σ → List κ → Nat
  | 0, _, _ => 0
  | n + 1, s, met => if (lab s && !(isIn (cell s) met)) && mat s then (if n = 0 then 1 else sumTo (fun i => if can s i then A n (mo s i) (met ++ [cell s]) else 0) 4) else 0
def B : Nat → σ → List κ → Nat
  | 0, _, _ => 1
  | n + 1, s, seen => sumTo (fun i => if (can s i && !(isIn (cell (mo s i)) seen)) && lab (mo s i) then B n (mo s i) (seen ++ [cell (mo s i)]) else 0) 4
theorem A_eq (hm : ∀ s i, can s i = true → mat (mo s i) = true) : ∀ (n : Nat) (s : σ) (met : List κ), A can mo lab mat cell (n + 1) s met = if (lab s && !(isIn (cell s) met)) && mat s then B can mo lab cell n s (met ++ [cell s]) else 0
  | 0, s, met => by
    rw [A, if_pos rfl, B]
  | n + 1, s, met => by
    rw [A, B]
    by_cases h : ((lab s && !(isIn (cell s) met)) && mat s) = true
    · rw [if_pos h, if_pos h, if_neg (Nat.succ_ne_zero n)]
      refine sumTo_congr fun i hi => ?_
      cases hc : can s i with
      | false => simp
      | true =>
        rw [if_pos rfl, A_eq hm n, hm s i hc, Bool.and_true, Bool.true_and, Bool.and_comm]
    · rw [if_neg h, if_neg h]
theorem B_le : ∀ (n : Nat) (s : σ) (seen : List κ), B can mo lab cell n s seen ≤ 4 ^ n
  | 0, s, seen => by rw [B]; exact Nat.le_refl _
  | n + 1, s, seen => by
    rw [B, Nat.pow_succ, Nat.mul_comm]
    refine sumTo_le fun i hi => ?_
    split
    · exact B_le n _ _
    · exact Nat.zero_le _
theorem A_le (hm : ∀ s i, can s i = true → mat (mo s i) = true) (n : Nat) (s : σ) (met : List κ) : A can mo lab mat cell (n + 1) s met ≤ 4 ^ n := by
  rw [A_eq can mo lab mat cell hm]
  split
  · exact B_le can mo lab cell n _ _
  · exact Nat.zero_le _
end
end Go.Proofs.YtolopkjpodnmkaaDoor.Tour
