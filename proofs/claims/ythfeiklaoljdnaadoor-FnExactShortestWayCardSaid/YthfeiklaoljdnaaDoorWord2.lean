/- The reference's word to a node is the word by which it was found. Conditions: none. -/
import Derived.Test.YthfeiklaoljdnaaDoorWyWord
import Derived.Test.YthfeiklaoljdnaaDoorWordR
import Derived.Test.YthfeiklaoljdnaaDoorWyPj
namespace Go.Proofs.YthfeiklaoljdnaaDoor.Word2
open Go.RowKit Go.Proofs.YthfeiklaoljdnaaDoor.QBs Go.Proofs.YthfeiklaoljdnaaDoor.WyR Go.Proofs.YthfeiklaoljdnaaDoor.WyWord Go.Proofs.YthfeiklaoljdnaaDoor.WordR
open Go.Proofs.YthfeiklaoljdnaaDoor.Reach (St frm)
set_option linter.unusedVariables false
set_option linter.unusedSimpArgs false

theorem letter_eq (d : Nat) (hd : d < 4) : letter (d : Int) = ⟨#[bytB d]⟩ := by
 rcases d with _ | _ | _ | _ | d
 ·rfl
 ·rfl
 ·rfl
 ·rfl
 ·omega
theorem text_snoc (w : List Nat) (d : Nat) (acc : ByteArray) : textOf w ++ ((⟨#[bytB d]⟩ : ByteArray) ++ acc) = textOf (w ++ [d]) ++ acc := by
 apply ByteArray.ext
 simp only [textOf, ByteArray.data_append, List.map_append, List.map_cons, List.map_nil]
 simp [← Array.append_assoc]
theorem back_eq {mv : St → Nat → Option St} {s0 : St} {L : Bfs.Nodes St} (hd : Bfs.Done mv s0 L) (ns : List Nd) (hp : WyPj.Pj ns L) : ∀ (j k : Nat) (x : St × List Nat) (acc : ByteArray), L[j]? = some x → j < k → back (ns.map sNd) k (j : Int) acc = some (textOf x.2 ++ acc) := by
 intro j
 induction j using Nat.strongRecOn with
 | _ j ih =>
  intro k x acc hx hk
  obtain ⟨k, rfl⟩ : ∃ m, k = m + 1 := ⟨k - 1, by omega⟩
  have hjl := (List.getElem?_eq_some_iff.1 hx).1
  have hjn : j < ns.length := by rw [hp.len]; exact hjl
  obtain ⟨_, _, hb, hdir⟩ := hp.at (List.getElem?_eq_getElem hjn) hx
  have hr : rd_T69 (ns.map sNd) (j : Int) = sNd ns[j] := by simp [rd_T69, List.getD, hjn]
  have h3 : (rd_T69 (ns.map sNd) (j : Int)).f3 = frm L x := by rw [hr]; exact hb
  have h4 : (rd_T69 (ns.map sNd) (j : Int)).f4 = WyPj.dirI x.2 := by rw [hr]; exact hdir
  unfold back
  rw [h3, h4, if_pos ⟨by omega, by rw [List.length_map]; omega⟩]
  by_cases h0 : j = 0
  ·have hw := (Reach.done_root mv hd hx).2 h0
   have hf : frm L x = -1 := by
    unfold frm
    rw [if_pos hw]
   rw [hf, if_neg (by decide), hw]
   congr 1
   try (apply ByteArray.ext; simp [textOf, ByteArray.data_append])
  ·obtain ⟨p, d, y, hf, hpy, hpj, hd4, _, hw⟩ := Reach.frm_done mv hd (by omega) hx
   rw [hf, if_pos (by omega), hw, WyPj.dirI_snoc, if_pos ⟨by omega, by omega⟩, ih p hpj k y _ hpy (by omega), letter_eq d hd4, text_snoc]
end Go.Proofs.YthfeiklaoljdnaaDoor.Word2
