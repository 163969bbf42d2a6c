/- Small laws that the walks of counts share: a row of numbers, how long a word is. Conditions: none. -/
import Derived.Test.YthfeiklaoljdnaaDoorReachR
import Derived.KernelRfl
namespace Go.Proofs.YthfeiklaoljdnaaDoor.IntR
open Go.RowKit Go.Proofs.YthfeiklaoljdnaaDoorW.PrintWords Go.Proofs.YthfeiklaoljdnaaDoorW.PrintLast Go.Proofs.YthfeiklaoljdnaaDoor.ReachR
open Go.Proofs.YthfeiklaoljdnaaDoor.Reach (St)
set_option linter.unusedVariables false
set_option linter.unusedSimpArgs false

theorem infoI : (Tryd.prog.info? 3).map (fun i => (i.zero, i.size, i.bytes)) = some (some (.int .i64 0), 1, 8) := by kernel_rfl
theorem int_free {e base b c n : Nat} {ok : Nat → Prop} {w : World} {K : IntKind} {xs : List Int} (h : Kd.R (Kd.int K) e w base ok (.slice (some ⟨b, 0, none⟩) n c) xs) (k : Nat) (hk : k < xs.length) : w.frozen? ⟨b, k, none⟩ = false := by
 have hn := (Kd.R_reads' h).1
 obtain ⟨ce, hcl, hM, hcc, hfr⟩ := Kd.R_elem h 0 (k : Int) (by omega) (by omega)
 have h2 := hfr 0
 simp only [Int.toNat_natCast] at h2
 rw [show k * (Kd.int K).sz + 0 = k from by show k * 1 + 0 = k; omega] at h2
 exact h2
theorem word_short {mv : St → Nat → Option St} {s0 : St} {L : Bfs.Nodes St} (h : Bfs.Done mv s0 L) : ∀ (j : Nat) (x : St × List Nat), L[j]? = some x → x.2.length ≤ j := by
 intro j
 induction j using Nat.strongRecOn with
 | _ j ih =>
  intro x hx
  by_cases h0 : j = 0
  ·subst h0
   rw [h.root] at hx
   injection hx with hx
   subst hx
   exact Nat.le_refl _
  ·obtain ⟨p, d, y, h1, h3, _, _, h6⟩ := h.born j (by omega) x hx
   have := ih p h3 y h1
   rw [h6, List.length_append, List.length_singleton]
   omega
end Go.Proofs.YthfeiklaoljdnaaDoor.IntR
