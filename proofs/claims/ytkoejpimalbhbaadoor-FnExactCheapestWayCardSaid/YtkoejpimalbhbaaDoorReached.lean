/- The call that searches: what rolls make of a state, as a method value tells them. Conditions: the moves keep to good states, of which there are at most 1000. -/
import Derived.Test.YtkoejpimalbhbaaDoorReachR
import Derived.OwnWalk
import Derived.Deep.LoopGhost
import Derived.Deep.QuietTactic
import Derived.BigQuiet
import Derived.Deep.CutBlock
import Derived.Deep.RegionHeld3
import Derived.Deep.RegionWith
import Derived.Deep.DeepCutAuto
import Derived.Lib.Hide
import Derived.Carry
import Derived.IntWalk
namespace Go.Proofs.YtkoejpimalbhbaaDoor.Reached
open Go.Lib (hid)
open Go.RowKit Go.Proofs.YtkoejpimalbhbaaDoorW.PrintWords Go.Proofs.YtkoejpimalbhbaaDoorW.PrintLast Go.Proofs.YtkoejpimalbhbaaDoor.QBs Go.Proofs.YtkoejpimalbhbaaDoor.Maps Go.Proofs.YtkoejpimalbhbaaDoor.ReachR
open Go.Proofs.YtkoejpimalbhbaaDoor.Reach (St frm)
open Go.Proofs.YtkoejpimalbhbaaDoor.Dice (Die roll)
open Go.ChangeMaps (setBlock)
set_option linter.unusedVariables false
set_option linter.unusedSimpArgs false

def mvf (mo : St → Nat → St) (can : St → Nat → Bool) (t : St) (i : Nat) : Option St := if can t i = true then some (mo t i) else none
def byt (i : Nat) : Int := if i = 0 then 110 else if i = 1 then 101 else if i = 2 then 115 else 119
theorem index_dir (i : Nat) (hi : i < 4) (W : World) : (Instr.index 9 (.string ⟨#[110, 101, 115, 119]⟩) (.int .i64 (i : Int))).run Tryd.prog W = .ok (.int .u8 (byt i)) W := by
 rcases i with _ | _ | _ | _ | i
 ·go_simp; rfl
 ·go_simp; rfl
 ·go_simp; rfl
 ·go_simp; rfl
 ·omega
theorem zeroI (W : World) : (zeroValue 3).run Tryd.prog W = .ok (.int .i64 0) W := by kernel_rfl
theorem R_notmap {α : Type} {d : Kd α} {e base M : Nat} {w : World} {v : Value} {xs : List α} {ks : List St} (h : d.R e w base (fun _ => True) v xs) (hm : holds w encSt valN M ks) : d.R e w base (fun k => k ≠ M) v xs :=
 Kd.R_mono (Kd.R_bound h) (fun k hk e => by
  obtain ⟨_, _, _, q, _, cells, hc⟩ := hk
  unfold holds at hm
  rw [e, hm] at hc
  simp at hc)
theorem set_R {α : Type} {d : Kd α} {e base M : Nat} {w w1 : World} {v : Value} {xs : List α} {ks : List St} (h : d.R e w base (fun _ => True) v xs) (hm : holds w encSt valN M ks) (hg : w.grownBy w1 (some M)) : d.R e w1 base (fun _ => True) v xs :=
 Kd.R_mono (Kd.R_grown (R_notmap h hm) hg (fun k hk e => hk (by injection e))) (fun _ _ => trivial)
theorem grow_R {α : Type} {d : Kd α} {e base b : Nat} {w w1 : World} {v : Value} {xs : List α} (hd : ∀ {ok1 ok2 : Nat → Prop} {x : α} {cs : List Value}, d.M w base ok1 x cs → d.M w base ok2 x cs) (h : d.R e w base (fun _ => True) v xs) (hg : w.grownBy w1 (some b)) (hne : ∀ k, v.ownBlock = some k → k ≠ b) : d.R e w1 base (fun _ => True) v xs :=
 Kd.R_mono (Kd.R_grown (Kd.R_flat (ok' := fun k => k ≠ b) hd h (fun k hk _ => hne k hk)) hg (fun k hk e => hk (by injection e))) (fun _ _ => trivial)
theorem own_new {u v : Value} {b m s : Nat} (hv : v.ownBlock = some b) (hm : m ≤ s) (h : u.ownBlock = v.ownBlock ∨ ∃ c, u.ownBlock = some c ∧ s ≤ c) : ∀ k, u.ownBlock = some k → k = b ∨ m ≤ k := by
 intro k hk
 rcases h with h | ⟨c, h, hc⟩
 ·rw [h, hv] at hk
  injection hk with hk
  exact .inl hk.symm
 ·rw [h] at hk
  injection hk with hk
  exact .inr (by omega)
theorem own_apart3 {u1 u3 v3 : Value} {b1 b3 m s : Nat} (h1 : ∀ k, u1.ownBlock = some k → k = b1 ∨ m ≤ k) (hlt : ∀ k, u1.ownBlock = some k → k < s) (hv : v3.ownBlock = some b3) (hb : b3 ≠ b1) (hm : b3 < m) (h : u3.ownBlock = v3.ownBlock ∨ ∃ c, u3.ownBlock = some c ∧ s ≤ c) :
  ∀ k, u1.ownBlock = some k → u3.ownBlock = some k → False := by
 intro k hk hk3
 have q1 := h1 k hk
 have q2 := hlt k hk
 rcases h with h | ⟨c, h, hc⟩
 ·rw [h, hv] at hk3
  injection hk3 with hk3
  omega
 ·rw [h] at hk3
  injection hk3 with hk3
  omega
theorem infoS : (Tryd.prog.info? 30).map (fun i => (i.zero, i.size, i.bytes)) = some (some (.agg #[.int .i64 0, .int .i64 0, .int .i64 0, .int .i64 0, .int .i64 0, .int .i64 0, .int .i64 0, .int .i64 0]), 8, 64) := by kernel_rfl
theorem infoI : (Tryd.prog.info? 3).map (fun i => (i.zero, i.size, i.bytes)) = some (some (.int .i64 0), 1, 8) := by kernel_rfl
theorem infoB : (Tryd.prog.info? 5).map (fun i => (i.zero, i.size, i.bytes)) = some (some (.int .u8 0), 1, 1) := by kernel_rfl
theorem place_some {x : St} : ∀ {l : List St} {j : Nat}, (Maps.place x j l).isSome = decide (x ∈ l) := by
 intro l j
 cases h : Maps.place x j l with
 | none =>
  have := place_none.1 h
  simp [this]
 | some i =>
  have : x ∈ l := by
   apply Classical.byContradiction
   intro hn
   rw [place_none.2 hn] at h
   cases h
  simp [this]
theorem apart4 {w : World} {base b0 b1 b2 b3 n c0 c1 c2 c3 : Nat} {xs0 : List S30} {xs1 xs2 xs3 : List Int} (h0 : Kd.R kSt 30 w base (fun _ => True) (.slice (some ⟨b0, 0, none⟩) n c0) xs0) (h1 : Kd.R (Kd.int .i64) 3 w base (fun _ => True) (.slice (some ⟨b1, 0, none⟩) n c1) xs1)
  (h2 : Kd.R (Kd.int .u8) 5 w base (fun _ => True) (.slice (some ⟨b2, 0, none⟩) n c2) xs2) (h3 : Kd.R (Kd.int .i64) 3 w base (fun _ => True) (.slice (some ⟨b3, 0, none⟩) n c3) xs3) (hne : b3 ≠ b1) :
  b0 ≠ b1 ∧ b0 ≠ b2 ∧ b0 ≠ b3 ∧ b1 ≠ b2 ∧ b1 ≠ b3 ∧ b2 ≠ b3 := by
 obtain ⟨i0, o0⟩ := Kd.R_own h0
 obtain ⟨i1, o1⟩ := Kd.R_own h1
 obtain ⟨i2, o2⟩ := Kd.R_own h2
 obtain ⟨i3, o3⟩ := Kd.R_own h3
 obtain ⟨q0, t0⟩ := own_typed o0 b0 rfl
 obtain ⟨q1, t1⟩ := own_typed o1 b1 rfl
 obtain ⟨q2, t2⟩ := own_typed o2 b2 rfl
 obtain ⟨q3, t3⟩ := own_typed o3 b3 rfl
 refine ⟨?_, ?_, ?_, ?_, fun e => hne e.symm, ?_⟩
 ·rintro rfl; rw [t0] at t1; simp at t1
 ·rintro rfl; rw [t0] at t2; simp at t2
 ·rintro rfl; rw [t0] at t3; simp at t3
 ·rintro rfl; rw [t1] at t2; simp at t2
 ·rintro rfl; rw [t2] at t3; simp at t3
theorem apartR {w : World} {base b0 b1 b2 b3 n c0 c1 c2 c3 B : Nat} {xs0 : List S30} {xs1 xs2 xs3 : List Int} {cs : Array Value} (h0 : Kd.R kSt 30 w base (fun _ => True) (.slice (some ⟨b0, 0, none⟩) n c0) xs0) (h1 : Kd.R (Kd.int .i64) 3 w base (fun _ => True) (.slice (some ⟨b1, 0, none⟩) n c1) xs1)
  (h2 : Kd.R (Kd.int .u8) 5 w base (fun _ => True) (.slice (some ⟨b2, 0, none⟩) n c2) xs2) (h3 : Kd.R (Kd.int .i64) 3 w base (fun _ => True) (.slice (some ⟨b3, 0, none⟩) n c3) xs3) (hB : w.heap[B]? = some (.cells cs 65 (0, 0))) :
  B ≠ b0 ∧ B ≠ b1 ∧ B ≠ b2 ∧ B ≠ b3 := by
 have e0 := Kd.R_ne h0 hB (by decide)
 have e1 := Kd.R_ne h1 hB (by decide)
 have e2 := Kd.R_ne h2 hB (by decide)
 have e3 := Kd.R_ne h3 hB (by decide)
 exact ⟨fun e => e0 (by rw [e]; rfl), fun e => e1 (by rw [e]; rfl), fun e => e2 (by rw [e]; rfl), fun e => e3 (by rw [e]; rfl)⟩
theorem apartM {w : World} {base b0 b1 b2 b3 n c0 c1 c2 c3 M : Nat} {xs0 : List S30} {xs1 xs2 xs3 : List Int} {ks : List St} (h0 : Kd.R kSt 30 w base (fun _ => True) (.slice (some ⟨b0, 0, none⟩) n c0) xs0) (h1 : Kd.R (Kd.int .i64) 3 w base (fun _ => True) (.slice (some ⟨b1, 0, none⟩) n c1) xs1)
  (h2 : Kd.R (Kd.int .u8) 5 w base (fun _ => True) (.slice (some ⟨b2, 0, none⟩) n c2) xs2) (h3 : Kd.R (Kd.int .i64) 3 w base (fun _ => True) (.slice (some ⟨b3, 0, none⟩) n c3) xs3) (hm : holds w encSt valN M ks) :
  M ≠ b0 ∧ M ≠ b1 ∧ M ≠ b2 ∧ M ≠ b3 :=
 ⟨fun e => (R_notmap h0 hm).1 b0 rfl e.symm, fun e => (R_notmap h1 hm).1 b1 rfl e.symm, fun e => (R_notmap h2 hm).1 b2 rfl e.symm, fun e => (R_notmap h3 hm).1 b3 rfl e.symm⟩
structure At (mo : St → Nat → St) (can : St → Nat → Bool) (s0 : St) (w0 wr : World) (B M : Nat) (L : Bfs.Nodes St) (k : Nat) : Prop where
 rs : ∃ v0 v1 v2 v3, RS w0 wr B M L v0 v1 v2 v3
 inv : Bfs.Inv (mvf mo can) s0 L k 0
 le : k ≤ L.length
 goes : Bfs.from_ (mvf mo can) (1001 - k) L k = Bfs.search (mvf mo can) 1001 s0
theorem startRS {w w' : World} {g1 g2 g3 g4 gm gr : Nat} {s0 : St} (hb : Below w.heap.size w w') (h1 : w'.heap[g1]? = some (.cells (st8 s0) 30 (0, 0)) ∧ w.heap.size ≤ g1) (h2 : w'.heap[g2]? = some (.cells #[.int .i64 (-1)] 3 (0, 0)) ∧ w.heap.size ≤ g2) (h3 : w'.heap[g3]? = some (.cells #[.int .u8 0] 5 (0, 0)) ∧ w.heap.size ≤ g3)
  (h4 : w'.heap[g4]? = some (.cells #[.int .i64 0] 3 (0, 0)) ∧ w.heap.size ≤ g4) (hne : g2 ≠ g4) (hm : holds w' encSt valN gm [s0] ∧ w.heap.size ≤ gm) (hr : w'.heap[gr]? = some (.cells #[.slice (some ⟨g1, 0, none⟩) 1 1, .slice (some ⟨g2, 0, none⟩) 1 1, .slice (some ⟨g3, 0, none⟩) 1 1, .slice (some ⟨g4, 0, none⟩) 1 1, .map (some gm)] 65 (0, 0)) ∧ w.heap.size ≤ gr) :
  RS w w' gr gm [(s0, [])] (.slice (some ⟨g1, 0, none⟩) 1 1) (.slice (some ⟨g2, 0, none⟩) 1 1) (.slice (some ⟨g3, 0, none⟩) 1 1) (.slice (some ⟨g4, 0, none⟩) 1 1) := by
 refine ⟨hr.1, ?_, ?_, ?_, ?_, hm.1, fun k e1 e3 => hne (Option.some.inj (e1.trans e3.symm)), hb, hr.2, hm.2⟩
 ·exact lit_R kSt h1.2 (cs := (st8 s0).toList) h1.1 (k30_mkM _ _ _ (sSt s0))
 ·have e : ([(s0, [])] : Bfs.Nodes St).map (frm [(s0, [])]) = [-1] := by simp [frm]
  rw [e]
  exact lit_R (Kd.int .i64) h2.2 (cs := [.int .i64 (-1)]) h2.1 rfl
 ·exact lit_R (Kd.int .u8) h3.2 (cs := [.int .u8 0]) h3.1 rfl
 ·exact lit_R (Kd.int .i64) h4.2 (cs := [.int .i64 0]) h4.1 rfl
theorem mkRS {w w' : World} {Br M n b0 b1 b2 b3 c0 c1 c2 c3 : Nat} {L : Bfs.Nodes St} {xs0 : List S30} {xs1 xs2 xs3 : List Int} {ks : List St} (hx : xs0 = (L.map fun x => sSt x.1) ∧ xs1 = L.map (frm L) ∧ xs2 = (L.map fun x => lastD x.2) ∧ xs3 = (L.map fun x => (x.2.length : Int)) ∧ ks = L.map (·.1))
  (hb : Below w.heap.size w w') (br : w'.heap[Br]? = some (.cells #[.slice (some ⟨b0, 0, none⟩) n c0, .slice (some ⟨b1, 0, none⟩) n c1, .slice (some ⟨b2, 0, none⟩) n c2, .slice (some ⟨b3, 0, none⟩) n c3, .map (some M)] 65 (0, 0)))
  (a0 : Kd.R kSt 30 w' w.heap.size (fun _ => True) (.slice (some ⟨b0, 0, none⟩) n c0) xs0) (a1 : Kd.R (Kd.int .i64) 3 w' w.heap.size (fun _ => True) (.slice (some ⟨b1, 0, none⟩) n c1) xs1) (a2 : Kd.R (Kd.int .u8) 5 w' w.heap.size (fun _ => True) (.slice (some ⟨b2, 0, none⟩) n c2) xs2)
  (a3 : Kd.R (Kd.int .i64) 3 w' w.heap.size (fun _ => True) (.slice (some ⟨b3, 0, none⟩) n c3) xs3) (hm : holds w' encSt valN M ks) (hne : b3 ≠ b1) (hbg : w.heap.size ≤ Br ∧ w.heap.size ≤ M) :
  RS w w' Br M L (.slice (some ⟨b0, 0, none⟩) n c0) (.slice (some ⟨b1, 0, none⟩) n c1) (.slice (some ⟨b2, 0, none⟩) n c2) (.slice (some ⟨b3, 0, none⟩) n c3) := by
 obtain ⟨rfl, rfl, rfl, rfl, rfl⟩ := hx
 exact ⟨br, a0, a1, a2, a3, hm, fun k h1 h3 => hne (Option.some.inj (h3.trans h1.symm)), hb, hbg.1, hbg.2⟩
theorem one_cannot {mo : St → Nat → St} {can : St → Nat → Bool} {L : Bfs.Nodes St} {k i : Nat} {x : St × List Nat} (hx : L[k]? = some x) (hc : can x.1 i = false) : Bfs.one (mvf mo can) L k i = L := by
 unfold Bfs.one
 rw [hx]
 simp [mvf, hc]
theorem one_has {mo : St → Nat → St} {can : St → Nat → Bool} {L : Bfs.Nodes St} {k i : Nat} {x : St × List Nat} (hx : L[k]? = some x) (hc : can x.1 i = true) (hh : mo x.1 i ∈ L.map (·.1)) : Bfs.one (mvf mo can) L k i = L := by
 have h : Bfs.has L (mo x.1 i) = true := by
  rw [Bfs.has_iff]
  obtain ⟨y, hy, he⟩ := List.mem_map.1 hh
  exact ⟨y.2, by rw [← he]; exact hy⟩
 unfold Bfs.one
 rw [hx]
 simp [mvf, hc, h]
theorem one_new {mo : St → Nat → St} {can : St → Nat → Bool} {L : Bfs.Nodes St} {k i : Nat} {x : St × List Nat} (hx : L[k]? = some x) (hc : can x.1 i = true) (hh : mo x.1 i ∉ L.map (·.1)) : Bfs.one (mvf mo can) L k i = L ++ [(mo x.1 i, x.2 ++ [i])] := by
 have h : Bfs.has L (mo x.1 i) = false := by
  apply Bool.eq_false_iff.2
  intro h
  obtain ⟨w, hw⟩ := Bfs.has_iff.1 h
  exact hh (List.mem_map.2 ⟨_, hw, rfl⟩)
 unfold Bfs.one
 rw [hx]
 simp [mvf, hc, h]
theorem word_small {mv : St → Nat → Option St} {s0 : St} {L : Bfs.Nodes St} {k i : Nat} (h : Bfs.Inv mv s0 L k i) : ∀ (j : Nat) (x : St × List Nat), L[j]? = some x → x.2.length ≤ j := by
 intro j
 induction j using Nat.strongRecOn with
 | _ j ih =>
  intro x hx
  by_cases h0 : j = 0
  ·subst h0
   rw [h.root] at hx
   injection hx with hx
   subst hx
   exact Nat.le_refl _
  ·obtain ⟨p, d, y, h1, _, h3, _, _, h6⟩ := h.born j (by omega) x hx
   have := ih p h3 y h1
   rw [h6, List.length_append, List.length_singleton]
   omega
theorem lastD_snoc (w : List Nat) (i : Nat) : lastD (w ++ [i]) = byt i := by
 unfold lastD byt
 simp
theorem newRS {mv : St → Nat → Option St} {s0 u : St} {w w' : World} {Br M k i fk : Nat} {L : Bfs.Nodes St} {x : St × List Nat} {xs0 : List S30} {xs1 xs2 xs3 : List Int} {ks : List St} {u0 u1 u2 u3 : Value} (hx : xs0 = (L.map fun x => sSt x.1) ∧ xs1 = L.map (frm L) ∧ xs2 = (L.map fun x => lastD x.2) ∧ xs3 = (L.map fun x => (x.2.length : Int)) ∧ ks = L.map (·.1))
  (hi : Bfs.Inv mv s0 L k i) (hk : L[k]? = some x) (hf : fk = x.2.length) (hb : Below w.heap.size w w') (br : w'.heap[Br]? = some (.cells #[u0, u1, u2, u3, .map (some M)] 65 (0, 0)))
  (a0 : Kd.R kSt 30 w' w.heap.size (fun _ => True) u0 (xs0 ++ [sSt u])) (a1 : Kd.R (Kd.int .i64) 3 w' w.heap.size (fun _ => True) u1 (xs1 ++ [(k : Int)])) (a2 : Kd.R (Kd.int .u8) 5 w' w.heap.size (fun _ => True) u2 (xs2 ++ [byt i]))
  (a3 : Kd.R (Kd.int .i64) 3 w' w.heap.size (fun _ => True) u3 (xs3 ++ [(fk : Int) + 1])) (hm : holds w' encSt valN M (ks ++ [u])) (hne : ∀ k, u1.ownBlock = some k → u3.ownBlock = some k → False) (hbg : w.heap.size ≤ Br ∧ w.heap.size ≤ M) :
  RS w w' Br M (L ++ [(u, x.2 ++ [i])]) u0 u1 u2 u3 := by
 obtain ⟨rfl, rfl, rfl, rfl, rfl⟩ := hx
 refine ⟨br, ?_, ?_, ?_, ?_, ?_, hne, hb, hbg.1, hbg.2⟩
 ·simpa using a0
 ·rw [Reach.frms_new mv hi (s := x.1) (w := x.2) hk]
  exact a1
 ·rw [List.map_append, List.map_cons, List.map_nil, lastD_snoc]
  exact a2
 ·have e : (((x.2 ++ [i]).length : Nat) : Int) = (fk : Int) + 1 := by rw [List.length_append, List.length_singleton, hf]; omega
  rw [List.map_append, List.map_cons, List.map_nil, e]
  exact a3
 ·simpa using hm
theorem At.next {mo : St → Nat → St} {can : St → Nat → Bool} {s0 : St} {w wo wr : World} {B M k : Nat} {L : Bfs.Nodes St} (h : At mo can s0 w wo B M L k) (hsm : ∀ L k i, Bfs.Inv (mvf mo can) s0 L k i → L.length ≤ 1000) (hk : k < L.length) (hs : ∃ v0 v1 v2 v3, RS w wr B M (Bfs.some_ (mvf mo can) L k 4) v0 v1 v2 v3) :
  At mo can s0 w wr B M (Bfs.some_ (mvf mo can) L k 4) (k + 1) := by
 obtain ⟨h1, h2⟩ := Bfs.inv_some (mvf mo can) h.inv hk 4 (Nat.le_refl _)
 have hl := hsm _ _ _ h.inv
 refine ⟨hs, Bfs.inv_next (mvf mo can) h1, by omega, ?_⟩
 have hg := h.goes
 rw [show 1001 - k = (1001 - (k + 1)) + 1 from by omega, Bfs.from_, if_pos hk] at hg
 exact hg
theorem At.done {mo : St → Nat → St} {can : St → Nat → Bool} {s0 : St} {w wo : World} {B M k : Nat} {L : Bfs.Nodes St} (h : At mo can s0 w wo B M L k) (hsm : ∀ L k i, Bfs.Inv (mvf mo can) s0 L k i → L.length ≤ 1000) (hk : L.length ≤ k) : L = Bfs.search (mvf mo can) 1001 s0 := by
 have hg := h.goes
 have hl := hsm _ _ _ h.inv
 have := h.le
 rw [show 1001 - k = (1000 - k) + 1 from by omega, Bfs.from_, if_neg (by omega)] at hg
 exact hg
theorem good_in {mo : St → Nat → St} {can : St → Nat → Bool} {s0 : St} {Gd : St → Prop} (h0 : Gd s0) (hg : ∀ t i, Gd t → i < 4 → can t i = true → Gd (mo t i)) {L : Bfs.Nodes St} {k i : Nat} (h : Bfs.Inv (mvf mo can) s0 L k i) : ∀ s w, (s, w) ∈ L → Gd s := by
 have hr : ∀ (w : List Nat) (s t : St), Gd s → (∀ d ∈ w, d < 4) → Bfs.run (mvf mo can) s w = some t → Gd t := by
  intro w
  induction w with
  | nil =>
   intro s t hs _ hr
   simp only [Bfs.run, Option.some.injEq] at hr
   exact hr ▸ hs
  | cons d w ih =>
   intro s t hs hd hr
   simp only [Bfs.run, mvf] at hr
   by_cases hc : can s d = true
   ·rw [if_pos hc, Option.bind_some] at hr
    exact ih _ _ (hg _ _ hs (hd d (by simp)) hc) (fun e he => hd e (by simp [he])) hr
   ·rw [if_neg hc] at hr
    cases hr
 intro s w hm
 exact hr w s0 s h0 (h.small s w hm) (h.leads s w hm)
def rch.T1 : Bool × List (List Nat × List Nat) := (true, [([], []), ([0], [0]), ([], []), ([], []), ([], []), ([], []), ([], []), ([5, 6], [5, 6]), ([5, 6, 7], [5]), ([1, 2, 3, 4, 8], [1, 2, 3, 4, 8]), ([9], [9]), ([10, 0, 1, 2, 3, 4, 5, 6, 7, 8, 9, 10], [10])])
def rch.B1 : List Nat := [0, 1, 0, 0, 0, 0, 0, 96, 224, 511, 1023, 2047]
theorem rch.tab1 : rtab .any (opsOf Tryd.f41 1) = rch.T1 := by kernel_rfl
theorem rch.bits1 : waitsOk rch.T1.2 rch.B1 = true := by kernel_rfl
def rch.T8 : Bool × List (List Nat × List Nat) := (true, [([], []), ([], []), ([1], [1]), ([2], [2]), ([3], [3]), ([], []), ([4, 5], [4, 5]), ([6], [6]), ([], []), ([8], [8]), ([0, 7, 9], [0, 7, 9]), ([10], [10]), ([11], [11]), ([11], [11]), ([], []), ([14, 12, 10, 0, 1, 2, 3, 4, 5, 6, 7, 8, 9, 10, 11, 12, 14], [12, 14]), ([13, 15, 0, 1, 2, 3, 4, 5, 6, 7, 8, 9, 10, 11, 12, 13, 14, 15], [13])])
def rch.B8 : List Nat := [0, 0, 2, 6, 14, 0, 62, 126, 0, 256, 1023, 2047, 4095, 4095, 0, 24575, 65535]
theorem rch.tab8 : rtab .any (opsOf Tryd.f41 8) = rch.T8 := by kernel_rfl
theorem rch.bits8 : waitsOk rch.T8.2 rch.B8 = true := by kernel_rfl
def rch.T9 : Bool × List (List Nat × List Nat) := (true, [([], []), ([0], [0]), ([1], [1]), ([2], [2]), ([], []), ([3, 4], [3, 4]), ([5], [5]), ([6], [6]), ([6], [6]), ([7, 0, 1, 2, 3, 4, 5, 6, 7], [7]), ([8, 9, 0, 1, 2, 3, 4, 5, 6, 7, 8, 9], [8])])
def rch.B9 : List Nat := [0, 1, 3, 7, 0, 31, 63, 127, 127, 255, 1023]
theorem rch.tab9 : rtab .any (opsOf Tryd.f41 9) = rch.T9 := by kernel_rfl
theorem rch.bits9 : waitsOk rch.T9.2 rch.B9 = true := by kernel_rfl
def rch.T11 : Bool × List (List Nat × List Nat) := (true, [([], []), ([0], [0]), ([1], [1]), ([2], [2]), ([], []), ([], []), ([5], [5]), ([6], [6]), ([7], [7]), ([8], [8]), ([3, 4, 9, 0, 1, 2, 3, 4, 5, 6, 7, 8, 9], [3, 4, 9])])
def rch.B11 : List Nat := [0, 1, 3, 7, 0, 0, 32, 96, 224, 480, 1023]
theorem rch.tab11 : rtab .any (opsOf Tryd.f41 11) = rch.T11 := by kernel_rfl
theorem rch.bits11 : waitsOk rch.T11.2 rch.B11 = true := by kernel_rfl
def rch.T12 : Bool × List (List Nat × List Nat) := (true, [([], []), ([], []), ([], []), ([], []), ([], []), ([4], [4]), ([5], [5]), ([6], [6]), ([], []), ([8], [8]), ([7, 9], [7, 9]), ([], []), ([11], [11]), ([12], [12]), ([13], [13]), ([], []), ([15], [15]), ([14, 16, 10], [14, 16]), ([], []), ([18], [18]), ([19], [19]), ([20], [20]), ([], []), ([22], [22]), ([23], [23]), ([21, 24, 17], [21, 24]), ([], []), ([26], [26]), ([27], [27]), ([28], [28]), ([], []), ([30], [30]), ([31], [31]), ([32], [32]), ([], []), ([33, 34], [33, 34]), ([35], [35]), ([36], [36]), ([37], [37]), ([29, 38, 25], [29, 38]), ([0, 0, 4, 5, 6, 7, 8, 9, 10, 14, 17, 21, 25, 29, 33, 36, 39], [0]), ([40, 0, 4, 5, 6, 7, 8, 9, 10, 14, 17, 21, 25, 29, 33, 36, 39], [40]), ([41, 10, 39, 0, 4, 5, 6, 7, 8, 9, 10, 14, 17, 21, 25, 29, 33, 36, 39], [10, 41]), ([1, 0, 1, 4, 5, 6, 7, 8, 9, 10, 11, 12, 13, 14, 15, 16, 17, 21, 25, 29, 33, 36, 39, 40, 41, 42], [1]), ([43, 0, 1, 4, 5, 6, 7, 8, 9, 10, 11, 12, 13, 14, 15, 16, 17, 21, 25, 29, 33, 36, 39, 40, 41, 42], [43]), ([44, 17, 42, 0, 1, 4, 5, 6, 7, 8, 9, 10, 11, 12, 13, 14, 15, 16, 17, 21, 25, 29, 33, 36, 39, 40, 41, 42], [17, 44]), ([2, 0, 1, 2, 4, 5, 6, 7, 8, 9, 10, 11, 12, 13, 14, 15, 16, 17, 18, 19, 20, 21, 22, 23, 24, 25, 29, 33, 36, 39, 40, 41, 42, 43, 44, 45], [2]), ([46, 0, 1, 2, 4, 5, 6, 7, 8, 9, 10, 11, 12, 13, 14, 15, 16, 17, 18, 19, 20, 21, 22, 23, 24, 25, 29, 33, 36, 39, 40, 41, 42, 43, 44, 45], [46]), ([47, 25, 45, 0, 1, 2, 4, 5, 6, 7, 8, 9, 10, 11, 12, 13, 14, 15, 16, 17, 18, 19, 20, 21, 22, 23, 24, 25, 29, 33, 36, 39, 40, 41, 42, 43, 44, 45], [25, 47]), ([3, 0, 1, 2, 3, 4, 5, 6, 7, 8, 9, 10, 11, 12, 13, 14, 15, 16, 17, 18, 19, 20, 21, 22, 23, 24, 25, 26, 27, 28, 29, 30, 31, 32, 33, 34, 35, 36, 37, 38, 39, 40, 41, 42, 43, 44, 45, 46, 47, 48], [3]), ([49, 0, 1, 2, 3, 4, 5, 6, 7, 8, 9, 10, 11, 12, 13, 14, 15, 16, 17, 18, 19, 20, 21, 22, 23, 24, 25, 26, 27, 28, 29, 30, 31, 32, 33, 34, 35, 36, 37, 38, 39, 40, 41, 42, 43, 44, 45, 46, 47, 48], [49]), ([50, 39, 48, 0, 1, 2, 3, 4, 5, 6, 7, 8, 9, 10, 11, 12, 13, 14, 15, 16, 17, 18, 19, 20, 21, 22, 23, 24, 25, 26, 27, 28, 29, 30, 31, 32, 33, 34, 35, 36, 37, 38, 39, 40, 41, 42, 43, 44, 45, 46, 47, 48], [39, 50])])
def rch.B12 : List Nat := [0, 0, 0, 0, 0, 16, 48, 112, 0, 256, 1008, 0, 2048, 6144, 14336, 0, 32768, 131056, 0, 262144, 786432, 1835008, 0, 4194304, 12582912, 33554416, 0, 67108864, 201326592, 469762048, 0, 1073741824, 3221225472, 7516192768, 0, 33285996544, 67645734912, 136365211648, 273804165120, 549755813872, 1099511627761, 2199023255537, 4398046511089, 8796093022195, 17592186044403, 35184372088819, 70368744177655, 140737488355319, 281474976710647, 562949953421311, 1125899906842623, 2251799813685247]
theorem rch.tab12 : rtab .any (opsOf Tryd.f41 12) = rch.T12 := by kernel_rfl
theorem rch.bits12 : waitsOk rch.T12.2 rch.B12 = true := by kernel_rfl
set_option maxHeartbeats 8000000 in
set_option maxRecDepth 100000 in
theorem reached_walk (s0 : St) (sl : Value) (mo : St → Nat → St) (can : St → Nat → Bool) (Gd : St → Prop) (w : World) (hs0 : Gd s0)
  (hmv : ∀ t i, Gd t → i < 4 → ∀ W, Below w.heap.size w W → Calls Tryd.prog 19 #[sl, .agg (st8 t), .int .u8 (byt i)] W fun e w' => e = .returned (.tuple #[.agg (st8 (mo t i)), .bool (can t i)]) ∧ Below W.heap.size W w')
  (hgd : ∀ t i, Gd t → i < 4 → can t i = true → Gd (mo t i)) (hsm : ∀ L k i, Bfs.Inv (mvf mo can) s0 L k i → L.length ≤ 1000) :
  Calls Tryd.prog 41 #[.agg (st8 s0), .func (.func 19) #[sl] #[]] w fun e w' =>
   ∃ B M v0 v1 v2 v3, e = .returned (.pointer (some ⟨B, 0, none⟩)) ∧ RS w w' B M (Bfs.search (mvf mo can) 1001 s0) v0 v1 v2 v3 := by
 have HMV0 := hid hmv
 have HGD := hid hgd
 have HSM := hid hsm
 have HS0 := hid hs0
 clear hmv hgd hsm hs0
 go_enter Tryd.func41, Tryd.ntmps41
 go_upto_region 1 with fail
 go_cut [5] (fun v5 wx => ∃ Br M v0 v1 v2 v3, v5 = .pointer (some ⟨Br, 0, none⟩) ∧ RS w wx Br M [(s0, [])] v0 v1 v2 v3)
 case first =>
  have HB := hid (below_drew (below_alloc (Below.refl w.heap.size w) (.cells (st8 s0) 30)))
  have BS := hid (blk_drew (blk_new w (.cells (st8 s0) 30)))
  refine start_ (n := 12) (S := fun w' => True) (ds := []) #[ff, ff, ff, ff, ff, ff, ff, ff, ff, ff, ff, ff] (by kernel_rfl) rfl rfl trivial (fun hHeld => ?_)
  refine with_tabW rch.tab1 rch.bits1 (fun HT_ HW_ => ?_)
  generalize World.drew _ = w1r at HB BS hHeld ⊢
  refine inv_at [0, 1, 2, 3, 4, 5, 6, 7, 8, 9, 10, 11] (fun a0_ b a w' => ∃ (g1_ : Nat) (g2_ : Nat) (g3_ : Nat) (g4_ : Nat) (gm_ : Nat) (gr_ : Nat) (m1_ : Value) (m2_ : Value) (m3_ : Value) (m4_ : Value) (m5_ : Value) (m8_ : Value) (m9_ : Value) (m10_ : Value) (m11_ : Value), a = putSel a0_ b [(0, 12, .agg #[.int .i64 s0.x, .int .i64 s0.y, .int .i64 s0.d.t, .int .i64 s0.d.n, .int .i64 s0.d.e, .int .i64 s0.d.s, .int .i64 s0.d.w, .int .i64 s0.d.b]), (1, 13, m1_), (2, 14, m2_), (3, 15, m3_), (4, 16, m4_), (5, 17, m5_), (6, 18, .agg #[.int .i64 s0.x, .int .i64 s0.y, .int .i64 s0.d.t, .int .i64 s0.d.n, .int .i64 s0.d.e, .int .i64 s0.d.s, .int .i64 s0.d.w, .int .i64 s0.d.b]), (8, 19, m8_), (9, 20, m9_), (10, 21, m10_), (11, 5, m11_)] ∧ (Below w.heap.size w w') ∧ (w'.heap[w.heap.size]? = some (.cells (st8 s0) 30 (0, 0))) ∧ (b 1 = true → w'.heap[g1_]? = some (.cells (st8 s0) 30 (0, 0)) ∧ w.heap.size ≤ g1_) ∧ (b 2 = true → w'.heap[g2_]? = some (.cells #[.int .i64 (-1)] 3 (0, 0)) ∧ w.heap.size ≤ g2_) ∧ (b 3 = true → w'.heap[g3_]? = some (.cells #[.int .u8 0] 5 (0, 0)) ∧ w.heap.size ≤ g3_) ∧ (b 4 = true → w'.heap[g4_]? = some (.cells #[.int .i64 0] 3 (0, 0)) ∧ w.heap.size ≤ g4_) ∧ (b 2 = true → b 4 = true → g2_ ≠ g4_) ∧ (b 5 = true → b 7 = false → w'.heap[gm_]? = some (.map #[] 0) ∧ w.heap.size ≤ gm_) ∧ (b 7 = true → holds w' encSt valN gm_ [s0] ∧ w.heap.size ≤ gm_) ∧ (b 10 = true → w'.heap[gr_]? = some (.cells #[.slice (some ⟨g1_, 0, none⟩) 1 1, .slice (some ⟨g2_, 0, none⟩) 1 1, .slice (some ⟨g3_, 0, none⟩) 1 1, .slice (some ⟨g4_, 0, none⟩) 1 1, .map (some gm_)] 65 (0, 0)) ∧ w.heap.size ≤ gr_) ∧ (b 1 = true → (m1_ : Value) = .slice (some ⟨g1_, 0, none⟩) 1 1) ∧ (b 2 = true → (m2_ : Value) = .slice (some ⟨g2_, 0, none⟩) 1 1) ∧ (b 3 = true → (m3_ : Value) = .slice (some ⟨g3_, 0, none⟩) 1 1) ∧ (b 4 = true → (m4_ : Value) = .slice (some ⟨g4_, 0, none⟩) 1 1) ∧ (b 5 = true → (m5_ : Value) = .map (some gm_)) ∧ (b 8 = true → (m8_ : Value) = .map (some gm_)) ∧ (b 9 = true → (m9_ : Value) = .agg #[.slice (some ⟨g1_, 0, none⟩) 1 1, .slice (some ⟨g2_, 0, none⟩) 1 1, .slice (some ⟨g3_, 0, none⟩) 1 1, .slice (some ⟨g4_, 0, none⟩) 1 1, .map (some gm_)]) ∧ (b 10 = true → (m10_ : Value) = .pointer (some ⟨gr_, 0, none⟩)) ∧ (b 11 = true → (m11_ : Value) = .pointer (some ⟨gr_, 0, none⟩))) HT_.out HW_.out (by kernel_rfl) (by kernel_rfl) ?_ ?_ ?_
  ·exact ⟨0, 0, 0, 0, 0, 0, .bool false, .bool false, .bool false, .bool false, .bool false, .bool false, .bool false, .bool false, .bool false, by simp only [putSel, Bool.false_eq_true, if_false], HB.out, BS.out, fun h_ => absurd h_ (by decide), fun h_ => absurd h_ (by decide), fun h_ => absurd h_ (by decide), fun h_ => absurd h_ (by decide), fun h_ => absurd h_ (by decide), fun h_ => absurd h_ (by decide), fun h_ => absurd h_ (by decide), fun h_ => absurd h_ (by decide), fun h_ => absurd h_ (by decide), fun h_ => absurd h_ (by decide), fun h_ => absurd h_ (by decide), fun h_ => absurd h_ (by decide), fun h_ => absurd h_ (by decide), fun h_ => absurd h_ (by decide), fun h_ => absurd h_ (by decide), fun h_ => absurd h_ (by decide), fun h_ => absurd h_ (by decide)⟩
  ·skip
   clear BS HB
   refine steps_cons ?_ ?_
   ·rintro b a w' ⟨g1_, g2_, g3_, g4_, gm_, gr_, m1_, m2_, m3_, m4_, m5_, m8_, m9_, m10_, m11_, ha, Q_HB, Q_BS, Q_L1, Q_L2, Q_L3, Q_L4, Q_D24, Q_M0, Q_M1, Q_BX, Q_X1_, Q_X2_, Q_X3_, Q_X4_, Q_X5_, Q_X8_, Q_X9_, Q_X10_, Q_X11_⟩ hb_ hon hoff
    refine ⟨_, rfl, fun K hK => ?_⟩
    have e2 : a.tmps[2]? = some (.pointer (some ⟨w.heap.size, 0, none⟩)) := by rw [ha]; exact (putSel_off rfl).trans rfl
    replace ha := am ha
    have HB := am Q_HB
    have BS := am Q_BS
    have o0 : w'.cell? ⟨w.heap.size, 0, none⟩ = some (.int .i64 s0.x) := blk_cell BS.out 0
    have o1 : w'.cell? ⟨w.heap.size, 1, none⟩ = some (.int .i64 s0.y) := blk_cell BS.out 1
    have o2 : w'.cell? ⟨w.heap.size, 2, none⟩ = some (.int .i64 s0.d.t) := blk_cell BS.out 2
    have o3 : w'.cell? ⟨w.heap.size, 3, none⟩ = some (.int .i64 s0.d.n) := blk_cell BS.out 3
    have o4 : w'.cell? ⟨w.heap.size, 4, none⟩ = some (.int .i64 s0.d.e) := blk_cell BS.out 4
    have o5 : w'.cell? ⟨w.heap.size, 5, none⟩ = some (.int .i64 s0.d.s) := blk_cell BS.out 5
    have o6 : w'.cell? ⟨w.heap.size, 6, none⟩ = some (.int .i64 s0.d.w) := blk_cell BS.out 6
    have o7 : w'.cell? ⟨w.heap.size, 7, none⟩ = some (.int .i64 s0.d.b) := blk_cell BS.out 7
    refine value_ (w1 := w') (v := .agg #[.int .i64 s0.x, .int .i64 s0.y, .int .i64 s0.d.t, .int .i64 s0.d.n, .int .i64 s0.d.e, .int .i64 s0.d.s, .int .i64 s0.d.w, .int .i64 s0.d.b]) (by rfl) rfl ?_ ?_
    ·go_simp
     (try simp only [i64_w])
     try rfl
    refine hK.out _ _ ⟨g1_, g2_, g3_, g4_, gm_, gr_, m1_, m2_, m3_, m4_, m5_, m8_, m9_, m10_, m11_, (by rw [ha.out]; exact putSel_upk 0 hb_ rfl rfl rfl), Q_HB, Q_BS, fun h0_ => absurd ((hoff 1 (by kernel_rfl)).symm.trans h0_) (by decide), Q_L2, Q_L3, Q_L4, Q_D24, Q_M0, Q_M1, fun h0_ => absurd ((hoff 10 (by kernel_rfl)).symm.trans h0_) (by decide), fun h0_ => absurd ((hoff 1 (by kernel_rfl)).symm.trans h0_) (by decide), Q_X2_, Q_X3_, Q_X4_, Q_X5_, Q_X8_, fun h0_ => absurd ((hoff 9 (by kernel_rfl)).symm.trans h0_) (by decide), fun h0_ => absurd ((hoff 10 (by kernel_rfl)).symm.trans h0_) (by decide), fun h0_ => absurd ((hoff 11 (by kernel_rfl)).symm.trans h0_) (by decide)⟩
   refine steps_cons ?_ ?_
   ·rintro b a w' ⟨g1_, g2_, g3_, g4_, gm_, gr_, m1_, m2_, m3_, m4_, m5_, m8_, m9_, m10_, m11_, ha, Q_HB, Q_BS, Q_L1, Q_L2, Q_L3, Q_L4, Q_D24, Q_M0, Q_M1, Q_BX, Q_X1_, Q_X2_, Q_X3_, Q_X4_, Q_X5_, Q_X8_, Q_X9_, Q_X10_, Q_X11_⟩ hb_ hon hoff
    refine ⟨_, rfl, fun K hK => ?_⟩
    have e12 : a.tmps[12]? = some (.agg #[.int .i64 s0.x, .int .i64 s0.y, .int .i64 s0.d.t, .int .i64 s0.d.n, .int .i64 s0.d.e, .int .i64 s0.d.s, .int .i64 s0.d.w, .int .i64 s0.d.b]) := by rw [ha]; exact putSel_on (e := (0, 12, .agg #[.int .i64 s0.x, .int .i64 s0.y, .int .i64 s0.d.t, .int .i64 s0.d.n, .int .i64 s0.d.e, .int .i64 s0.d.s, .int .i64 s0.d.w, .int .i64 s0.d.b])) 0 rfl rfl (hon 0 (by kernel_rfl)) rfl
    replace ha := am ha
    have HB := am Q_HB
    have BS := am Q_BS
    refine value_ (w1 := ?_) (v := ?_) (by rfl) rfl ?_ ?_
    rotate_left 2
    ·go_simp
     constructor
     ·rfl
     ·rfl
    refine hK.out _ _ ⟨w'.heap.size, g2_, g3_, g4_, gm_, gr_, (.slice (some ⟨w'.heap.size, 0, none⟩) 1 1), m2_, m3_, m4_, m5_, m8_, m9_, m10_, m11_, (by rw [ha.out]; exact putSel_upk 1 hb_ rfl rfl rfl), below_alloc HB.out _, blk_alloc BS.out _, fun _ => ⟨blk_new _ _, HB.out.size⟩, fun h0_ => ⟨blk_alloc (Q_L2 h0_).1 _, (Q_L2 h0_).2⟩, fun h0_ => ⟨blk_alloc (Q_L3 h0_).1 _, (Q_L3 h0_).2⟩, fun h0_ => ⟨blk_alloc (Q_L4 h0_).1 _, (Q_L4 h0_).2⟩, Q_D24, fun h0_ h1_ => ⟨blk_alloc (Q_M0 h0_ h1_).1 _, (Q_M0 h0_ h1_).2⟩, fun h0_ => ⟨holds_below (Q_M1 h0_).1 (below_alloc (Below.refl _ _) _), (Q_M1 h0_).2⟩, fun h0_ => absurd ((hoff 10 (by kernel_rfl)).symm.trans h0_) (by decide), fun _ => rfl, Q_X2_, Q_X3_, Q_X4_, Q_X5_, Q_X8_, fun h0_ => absurd ((hoff 9 (by kernel_rfl)).symm.trans h0_) (by decide), fun h0_ => absurd ((hoff 10 (by kernel_rfl)).symm.trans h0_) (by decide), fun h0_ => absurd ((hoff 11 (by kernel_rfl)).symm.trans h0_) (by decide)⟩
   refine steps_cons ?_ ?_
   ·rintro b a w' ⟨g1_, g2_, g3_, g4_, gm_, gr_, m1_, m2_, m3_, m4_, m5_, m8_, m9_, m10_, m11_, ha, Q_HB, Q_BS, Q_L1, Q_L2, Q_L3, Q_L4, Q_D24, Q_M0, Q_M1, Q_BX, Q_X1_, Q_X2_, Q_X3_, Q_X4_, Q_X5_, Q_X8_, Q_X9_, Q_X10_, Q_X11_⟩ hb_ hon hoff
    refine ⟨_, rfl, fun K hK => ?_⟩
    replace ha := am ha
    have HB := am Q_HB
    have BS := am Q_BS
    refine value_ (w1 := ?_) (v := ?_) (by rfl) rfl ?_ ?_
    rotate_left 2
    ·go_simp
     constructor
     ·rfl
     ·rfl
    refine hK.out _ _ ⟨g1_, w'.heap.size, g3_, g4_, gm_, gr_, m1_, (.slice (some ⟨w'.heap.size, 0, none⟩) 1 1), m3_, m4_, m5_, m8_, m9_, m10_, m11_, (by rw [ha.out]; exact putSel_upk 2 hb_ rfl rfl rfl), below_alloc HB.out _, blk_alloc BS.out _, fun h0_ => ⟨blk_alloc (Q_L1 h0_).1 _, (Q_L1 h0_).2⟩, fun _ => ⟨blk_new _ _, HB.out.size⟩, fun h0_ => ⟨blk_alloc (Q_L3 h0_).1 _, (Q_L3 h0_).2⟩, fun h0_ => ⟨blk_alloc (Q_L4 h0_).1 _, (Q_L4 h0_).2⟩, fun _ _ => (by rename_i ha_ hc_; have h_ := blk_lt (Q_L4 hc_).1; omega), fun h0_ h1_ => ⟨blk_alloc (Q_M0 h0_ h1_).1 _, (Q_M0 h0_ h1_).2⟩, fun h0_ => ⟨holds_below (Q_M1 h0_).1 (below_alloc (Below.refl _ _) _), (Q_M1 h0_).2⟩, fun h0_ => absurd ((hoff 10 (by kernel_rfl)).symm.trans h0_) (by decide), Q_X1_, fun _ => rfl, Q_X3_, Q_X4_, Q_X5_, Q_X8_, fun h0_ => absurd ((hoff 9 (by kernel_rfl)).symm.trans h0_) (by decide), fun h0_ => absurd ((hoff 10 (by kernel_rfl)).symm.trans h0_) (by decide), fun h0_ => absurd ((hoff 11 (by kernel_rfl)).symm.trans h0_) (by decide)⟩
   refine steps_cons ?_ ?_
   ·rintro b a w' ⟨g1_, g2_, g3_, g4_, gm_, gr_, m1_, m2_, m3_, m4_, m5_, m8_, m9_, m10_, m11_, ha, Q_HB, Q_BS, Q_L1, Q_L2, Q_L3, Q_L4, Q_D24, Q_M0, Q_M1, Q_BX, Q_X1_, Q_X2_, Q_X3_, Q_X4_, Q_X5_, Q_X8_, Q_X9_, Q_X10_, Q_X11_⟩ hb_ hon hoff
    refine ⟨_, rfl, fun K hK => ?_⟩
    replace ha := am ha
    have HB := am Q_HB
    have BS := am Q_BS
    refine value_ (w1 := ?_) (v := ?_) (by rfl) rfl ?_ ?_
    rotate_left 2
    ·go_simp
     constructor
     ·rfl
     ·rfl
    refine hK.out _ _ ⟨g1_, g2_, w'.heap.size, g4_, gm_, gr_, m1_, m2_, (.slice (some ⟨w'.heap.size, 0, none⟩) 1 1), m4_, m5_, m8_, m9_, m10_, m11_, (by rw [ha.out]; exact putSel_upk 3 hb_ rfl rfl rfl), below_alloc HB.out _, blk_alloc BS.out _, fun h0_ => ⟨blk_alloc (Q_L1 h0_).1 _, (Q_L1 h0_).2⟩, fun h0_ => ⟨blk_alloc (Q_L2 h0_).1 _, (Q_L2 h0_).2⟩, fun _ => ⟨blk_new _ _, HB.out.size⟩, fun h0_ => ⟨blk_alloc (Q_L4 h0_).1 _, (Q_L4 h0_).2⟩, Q_D24, fun h0_ h1_ => ⟨blk_alloc (Q_M0 h0_ h1_).1 _, (Q_M0 h0_ h1_).2⟩, fun h0_ => ⟨holds_below (Q_M1 h0_).1 (below_alloc (Below.refl _ _) _), (Q_M1 h0_).2⟩, fun h0_ => absurd ((hoff 10 (by kernel_rfl)).symm.trans h0_) (by decide), Q_X1_, Q_X2_, fun _ => rfl, Q_X4_, Q_X5_, Q_X8_, fun h0_ => absurd ((hoff 9 (by kernel_rfl)).symm.trans h0_) (by decide), fun h0_ => absurd ((hoff 10 (by kernel_rfl)).symm.trans h0_) (by decide), fun h0_ => absurd ((hoff 11 (by kernel_rfl)).symm.trans h0_) (by decide)⟩
   refine steps_cons ?_ ?_
   ·rintro b a w' ⟨g1_, g2_, g3_, g4_, gm_, gr_, m1_, m2_, m3_, m4_, m5_, m8_, m9_, m10_, m11_, ha, Q_HB, Q_BS, Q_L1, Q_L2, Q_L3, Q_L4, Q_D24, Q_M0, Q_M1, Q_BX, Q_X1_, Q_X2_, Q_X3_, Q_X4_, Q_X5_, Q_X8_, Q_X9_, Q_X10_, Q_X11_⟩ hb_ hon hoff
    refine ⟨_, rfl, fun K hK => ?_⟩
    replace ha := am ha
    have HB := am Q_HB
    have BS := am Q_BS
    refine value_ (w1 := ?_) (v := ?_) (by rfl) rfl ?_ ?_
    rotate_left 2
    ·go_simp
     constructor
     ·rfl
     ·rfl
    refine hK.out _ _ ⟨g1_, g2_, g3_, w'.heap.size, gm_, gr_, m1_, m2_, m3_, (.slice (some ⟨w'.heap.size, 0, none⟩) 1 1), m5_, m8_, m9_, m10_, m11_, (by rw [ha.out]; exact putSel_upk 4 hb_ rfl rfl rfl), below_alloc HB.out _, blk_alloc BS.out _, fun h0_ => ⟨blk_alloc (Q_L1 h0_).1 _, (Q_L1 h0_).2⟩, fun h0_ => ⟨blk_alloc (Q_L2 h0_).1 _, (Q_L2 h0_).2⟩, fun h0_ => ⟨blk_alloc (Q_L3 h0_).1 _, (Q_L3 h0_).2⟩, fun _ => ⟨blk_new _ _, HB.out.size⟩, fun _ _ => (by rename_i ha_ hc_; have h_ := blk_lt (Q_L2 ha_).1; omega), fun h0_ h1_ => ⟨blk_alloc (Q_M0 h0_ h1_).1 _, (Q_M0 h0_ h1_).2⟩, fun h0_ => ⟨holds_below (Q_M1 h0_).1 (below_alloc (Below.refl _ _) _), (Q_M1 h0_).2⟩, fun h0_ => absurd ((hoff 10 (by kernel_rfl)).symm.trans h0_) (by decide), Q_X1_, Q_X2_, Q_X3_, fun _ => rfl, Q_X5_, Q_X8_, fun h0_ => absurd ((hoff 9 (by kernel_rfl)).symm.trans h0_) (by decide), fun h0_ => absurd ((hoff 10 (by kernel_rfl)).symm.trans h0_) (by decide), fun h0_ => absurd ((hoff 11 (by kernel_rfl)).symm.trans h0_) (by decide)⟩
   refine steps_cons ?_ ?_
   ·rintro b a w' ⟨g1_, g2_, g3_, g4_, gm_, gr_, m1_, m2_, m3_, m4_, m5_, m8_, m9_, m10_, m11_, ha, Q_HB, Q_BS, Q_L1, Q_L2, Q_L3, Q_L4, Q_D24, Q_M0, Q_M1, Q_BX, Q_X1_, Q_X2_, Q_X3_, Q_X4_, Q_X5_, Q_X8_, Q_X9_, Q_X10_, Q_X11_⟩ hb_ hon hoff
    refine ⟨_, rfl, fun K hK => ?_⟩
    replace ha := am ha
    have HB := am Q_HB
    have BS := am Q_BS
    have hmm_ := @run_makeMap Tryd.prog
    refine value_ (w1 := ?_) (v := ?_) (by rfl) rfl ?_ ?_
    rotate_left 2
    ·go_simp
     constructor
     ·rfl
     ·rfl
    refine hK.out _ _ ⟨g1_, g2_, g3_, g4_, w'.heap.size, gr_, m1_, m2_, m3_, m4_, (.map (some w'.heap.size)), m8_, m9_, m10_, m11_, (by rw [ha.out]; exact putSel_upk 5 hb_ rfl rfl rfl), below_alloc HB.out _, blk_alloc BS.out _, fun h0_ => ⟨blk_alloc (Q_L1 h0_).1 _, (Q_L1 h0_).2⟩, fun h0_ => ⟨blk_alloc (Q_L2 h0_).1 _, (Q_L2 h0_).2⟩, fun h0_ => ⟨blk_alloc (Q_L3 h0_).1 _, (Q_L3 h0_).2⟩, fun h0_ => ⟨blk_alloc (Q_L4 h0_).1 _, (Q_L4 h0_).2⟩, Q_D24, fun _ _ => ⟨blk_new _ _, HB.out.size⟩, fun h0_ => absurd ((hoff 7 (by kernel_rfl)).symm.trans h0_) (by decide), fun h0_ => absurd ((hoff 10 (by kernel_rfl)).symm.trans h0_) (by decide), Q_X1_, Q_X2_, Q_X3_, Q_X4_, fun _ => rfl, fun h0_ => absurd ((hoff 8 (by kernel_rfl)).symm.trans h0_) (by decide), fun h0_ => absurd ((hoff 9 (by kernel_rfl)).symm.trans h0_) (by decide), fun h0_ => absurd ((hoff 10 (by kernel_rfl)).symm.trans h0_) (by decide), fun h0_ => absurd ((hoff 11 (by kernel_rfl)).symm.trans h0_) (by decide)⟩
   refine steps_cons ?_ ?_
   ·rintro b a w' ⟨g1_, g2_, g3_, g4_, gm_, gr_, m1_, m2_, m3_, m4_, m5_, m8_, m9_, m10_, m11_, ha, Q_HB, Q_BS, Q_L1, Q_L2, Q_L3, Q_L4, Q_D24, Q_M0, Q_M1, Q_BX, Q_X1_, Q_X2_, Q_X3_, Q_X4_, Q_X5_, Q_X8_, Q_X9_, Q_X10_, Q_X11_⟩ hb_ hon hoff
    refine ⟨_, rfl, fun K hK => ?_⟩
    have e2 : a.tmps[2]? = some (.pointer (some ⟨w.heap.size, 0, none⟩)) := by rw [ha]; exact (putSel_off rfl).trans rfl
    replace ha := am ha
    have HB := am Q_HB
    have BS := am Q_BS
    have o0 : w'.cell? ⟨w.heap.size, 0, none⟩ = some (.int .i64 s0.x) := blk_cell BS.out 0
    have o1 : w'.cell? ⟨w.heap.size, 1, none⟩ = some (.int .i64 s0.y) := blk_cell BS.out 1
    have o2 : w'.cell? ⟨w.heap.size, 2, none⟩ = some (.int .i64 s0.d.t) := blk_cell BS.out 2
    have o3 : w'.cell? ⟨w.heap.size, 3, none⟩ = some (.int .i64 s0.d.n) := blk_cell BS.out 3
    have o4 : w'.cell? ⟨w.heap.size, 4, none⟩ = some (.int .i64 s0.d.e) := blk_cell BS.out 4
    have o5 : w'.cell? ⟨w.heap.size, 5, none⟩ = some (.int .i64 s0.d.s) := blk_cell BS.out 5
    have o6 : w'.cell? ⟨w.heap.size, 6, none⟩ = some (.int .i64 s0.d.w) := blk_cell BS.out 6
    have o7 : w'.cell? ⟨w.heap.size, 7, none⟩ = some (.int .i64 s0.d.b) := blk_cell BS.out 7
    refine value_ (w1 := w') (v := .agg #[.int .i64 s0.x, .int .i64 s0.y, .int .i64 s0.d.t, .int .i64 s0.d.n, .int .i64 s0.d.e, .int .i64 s0.d.s, .int .i64 s0.d.w, .int .i64 s0.d.b]) (by rfl) rfl ?_ ?_
    ·go_simp
     (try simp only [i64_w])
     try rfl
    refine hK.out _ _ ⟨g1_, g2_, g3_, g4_, gm_, gr_, m1_, m2_, m3_, m4_, m5_, m8_, m9_, m10_, m11_, (by rw [ha.out]; exact putSel_upk 6 hb_ rfl rfl rfl), Q_HB, Q_BS, Q_L1, Q_L2, Q_L3, Q_L4, Q_D24, Q_M0, fun h0_ => absurd ((hoff 7 (by kernel_rfl)).symm.trans h0_) (by decide), fun h0_ => absurd ((hoff 10 (by kernel_rfl)).symm.trans h0_) (by decide), Q_X1_, Q_X2_, Q_X3_, Q_X4_, Q_X5_, fun h0_ => absurd ((hoff 8 (by kernel_rfl)).symm.trans h0_) (by decide), fun h0_ => absurd ((hoff 9 (by kernel_rfl)).symm.trans h0_) (by decide), fun h0_ => absurd ((hoff 10 (by kernel_rfl)).symm.trans h0_) (by decide), fun h0_ => absurd ((hoff 11 (by kernel_rfl)).symm.trans h0_) (by decide)⟩
   refine steps_cons ?_ ?_
   ·rintro b a w' ⟨g1_, g2_, g3_, g4_, gm_, gr_, m1_, m2_, m3_, m4_, m5_, m8_, m9_, m10_, m11_, ha, Q_HB, Q_BS, Q_L1, Q_L2, Q_L3, Q_L4, Q_D24, Q_M0, Q_M1, Q_BX, Q_X1_, Q_X2_, Q_X3_, Q_X4_, Q_X5_, Q_X8_, Q_X9_, Q_X10_, Q_X11_⟩ hb_ hon hoff
    refine ⟨_, rfl, fun K hK => ?_⟩
    have e17 : a.tmps[17]? = some (m5_) := by rw [ha]; exact putSel_on (e := (5, 17, m5_)) 5 rfl rfl (hon 5 (by kernel_rfl)) rfl
    rw [Q_X5_ (hon 5 (by kernel_rfl))] at e17
    have e18 : a.tmps[18]? = some (.agg #[.int .i64 s0.x, .int .i64 s0.y, .int .i64 s0.d.t, .int .i64 s0.d.n, .int .i64 s0.d.e, .int .i64 s0.d.s, .int .i64 s0.d.w, .int .i64 s0.d.b]) := by rw [ha]; exact putSel_on (e := (6, 18, .agg #[.int .i64 s0.x, .int .i64 s0.y, .int .i64 s0.d.t, .int .i64 s0.d.n, .int .i64 s0.d.e, .int .i64 s0.d.s, .int .i64 s0.d.w, .int .i64 s0.d.b])) 6 rfl rfl (hon 6 (by kernel_rfl)) rfl
    replace ha := am ha
    have HB := am Q_HB
    have BS := am Q_BS
    have M0 := am (Q_M0 (hon 5 (by kernel_rfl)) hb_)
    have hput_ := put_run (val := valN) fits Tryd.underlying63 (show holds w' encSt valN gm_ [] from M0.out.1) s0 rfl
    rw [show valN ([] : List St).length = .int .i64 0 from rfl] at hput_
    have hg_ := grown_put (show holds w' encSt valN gm_ [] from M0.out.1) (.map (entries encSt valN 0 ([] ++ [s0])).toArray ([] ++ [s0] : List St).length)
    refine skip_ (w1 := ?_) (by rfl) rfl ?_ ?_
    rotate_left
    ·go_simp
     rfl
    refine hK.out _ _ ⟨g1_, g2_, g3_, g4_, gm_, gr_, m1_, m2_, m3_, m4_, m5_, m8_, m9_, m10_, m11_, (by rw [ha.out]; exact putSel_none (v := undef) rfl), pw_below_grown HB.out (some gm_) HB.out.size hg_ (fun k_ e_ => by injection e_ with e_; have h1_ := M0.out.2; omega), (hg_.block _ (blk_lt BS.out) (fun e_ => by injection e_ with e_; have h1_ := M0.out.1; rw [← e_, BS.out] at h1_; simp at h1_)).trans BS.out, fun h0_ => ⟨(hg_.block _ (blk_lt (Q_L1 h0_).1) (fun e_ => by injection e_ with e_; have h1_ := M0.out.1; rw [← e_, (Q_L1 h0_).1] at h1_; simp at h1_)).trans (Q_L1 h0_).1, (Q_L1 h0_).2⟩, fun h0_ => ⟨(hg_.block _ (blk_lt (Q_L2 h0_).1) (fun e_ => by injection e_ with e_; have h1_ := M0.out.1; rw [← e_, (Q_L2 h0_).1] at h1_; simp at h1_)).trans (Q_L2 h0_).1, (Q_L2 h0_).2⟩, fun h0_ => ⟨(hg_.block _ (blk_lt (Q_L3 h0_).1) (fun e_ => by injection e_ with e_; have h1_ := M0.out.1; rw [← e_, (Q_L3 h0_).1] at h1_; simp at h1_)).trans (Q_L3 h0_).1, (Q_L3 h0_).2⟩, fun h0_ => ⟨(hg_.block _ (blk_lt (Q_L4 h0_).1) (fun e_ => by injection e_ with e_; have h1_ := M0.out.1; rw [← e_, (Q_L4 h0_).1] at h1_; simp at h1_)).trans (Q_L4 h0_).1, (Q_L4 h0_).2⟩, Q_D24, fun _ h1_ => absurd ((up_self b 7).symm.trans h1_) (by decide), fun _ => ⟨holds_put (show holds w' encSt valN gm_ [] from M0.out.1) s0, M0.out.2⟩, fun h0_ => absurd ((hoff 10 (by kernel_rfl)).symm.trans h0_) (by decide), Q_X1_, Q_X2_, Q_X3_, Q_X4_, Q_X5_, fun h0_ => absurd ((hoff 8 (by kernel_rfl)).symm.trans h0_) (by decide), fun h0_ => absurd ((hoff 9 (by kernel_rfl)).symm.trans h0_) (by decide), fun h0_ => absurd ((hoff 10 (by kernel_rfl)).symm.trans h0_) (by decide), fun h0_ => absurd ((hoff 11 (by kernel_rfl)).symm.trans h0_) (by decide)⟩
   refine steps_cons ?_ ?_
   ·rintro b a w' ⟨g1_, g2_, g3_, g4_, gm_, gr_, m1_, m2_, m3_, m4_, m5_, m8_, m9_, m10_, m11_, ha, Q_HB, Q_BS, Q_L1, Q_L2, Q_L3, Q_L4, Q_D24, Q_M0, Q_M1, Q_BX, Q_X1_, Q_X2_, Q_X3_, Q_X4_, Q_X5_, Q_X8_, Q_X9_, Q_X10_, Q_X11_⟩ hb_ hon hoff
    refine ⟨_, rfl, fun K hK => ?_⟩
    have e17 : a.tmps[17]? = some (m5_) := by rw [ha]; exact putSel_on (e := (5, 17, m5_)) 5 rfl rfl (hon 5 (by kernel_rfl)) rfl
    rw [Q_X5_ (hon 5 (by kernel_rfl))] at e17
    replace ha := am ha
    have HB := am Q_HB
    have BS := am Q_BS
    have M1 := am (Q_M1 (hon 7 (by kernel_rfl)))
    refine value_ (w1 := w') (v := .map (some gm_)) (by rfl) rfl ?_ ?_
    ·go_simp
     (try simp only [i64_w])
     try rfl
    refine hK.out _ _ ⟨g1_, g2_, g3_, g4_, gm_, gr_, m1_, m2_, m3_, m4_, m5_, (.map (some gm_)), m9_, m10_, m11_, (by rw [ha.out]; exact putSel_upk 7 hb_ rfl rfl rfl), Q_HB, Q_BS, Q_L1, Q_L2, Q_L3, Q_L4, Q_D24, fun _ h1_ => absurd ((hon 7 (by kernel_rfl)).symm.trans h1_) (by decide), Q_M1, fun h0_ => absurd ((hoff 10 (by kernel_rfl)).symm.trans h0_) (by decide), Q_X1_, Q_X2_, Q_X3_, Q_X4_, Q_X5_, fun _ => rfl, fun h0_ => absurd ((hoff 9 (by kernel_rfl)).symm.trans h0_) (by decide), fun h0_ => absurd ((hoff 10 (by kernel_rfl)).symm.trans h0_) (by decide), fun h0_ => absurd ((hoff 11 (by kernel_rfl)).symm.trans h0_) (by decide)⟩
   refine steps_cons ?_ ?_
   ·rintro b a w' ⟨g1_, g2_, g3_, g4_, gm_, gr_, m1_, m2_, m3_, m4_, m5_, m8_, m9_, m10_, m11_, ha, Q_HB, Q_BS, Q_L1, Q_L2, Q_L3, Q_L4, Q_D24, Q_M0, Q_M1, Q_BX, Q_X1_, Q_X2_, Q_X3_, Q_X4_, Q_X5_, Q_X8_, Q_X9_, Q_X10_, Q_X11_⟩ hb_ hon hoff
    refine ⟨_, rfl, fun K hK => ?_⟩
    have e13 : a.tmps[13]? = some (m1_) := by rw [ha]; exact putSel_on (e := (1, 13, m1_)) 1 rfl rfl (hon 1 (by kernel_rfl)) rfl
    rw [Q_X1_ (hon 1 (by kernel_rfl))] at e13
    have e14 : a.tmps[14]? = some (m2_) := by rw [ha]; exact putSel_on (e := (2, 14, m2_)) 2 rfl rfl (hon 2 (by kernel_rfl)) rfl
    rw [Q_X2_ (hon 2 (by kernel_rfl))] at e14
    have e15 : a.tmps[15]? = some (m3_) := by rw [ha]; exact putSel_on (e := (3, 15, m3_)) 3 rfl rfl (hon 3 (by kernel_rfl)) rfl
    rw [Q_X3_ (hon 3 (by kernel_rfl))] at e15
    have e16 : a.tmps[16]? = some (m4_) := by rw [ha]; exact putSel_on (e := (4, 16, m4_)) 4 rfl rfl (hon 4 (by kernel_rfl)) rfl
    rw [Q_X4_ (hon 4 (by kernel_rfl))] at e16
    have e19 : a.tmps[19]? = some (m8_) := by rw [ha]; exact putSel_on (e := (8, 19, m8_)) 7 rfl rfl (hon 8 (by kernel_rfl)) rfl
    rw [Q_X8_ (hon 8 (by kernel_rfl))] at e19
    replace ha := am ha
    have HB := am Q_HB
    have BS := am Q_BS
    have L1 := am (Q_L1 (hon 1 (by kernel_rfl)))
    have L2 := am (Q_L2 (hon 2 (by kernel_rfl)))
    have L3 := am (Q_L3 (hon 3 (by kernel_rfl)))
    have L4 := am (Q_L4 (hon 4 (by kernel_rfl)))
    have D24 := am (Q_D24 (hon 2 (by kernel_rfl)) (hon 4 (by kernel_rfl)))
    have M1 := am (Q_M1 (hon 7 (by kernel_rfl)))
    refine value_ (w1 := w') (v := .agg #[.slice (some ⟨g1_, 0, none⟩) 1 1, .slice (some ⟨g2_, 0, none⟩) 1 1, .slice (some ⟨g3_, 0, none⟩) 1 1, .slice (some ⟨g4_, 0, none⟩) 1 1, .map (some gm_)]) (by rfl) rfl ?_ ?_
    ·go_simp
     (try simp only [i64_w])
     try rfl
    refine hK.out _ _ ⟨g1_, g2_, g3_, g4_, gm_, gr_, m1_, m2_, m3_, m4_, m5_, m8_, (.agg #[.slice (some ⟨g1_, 0, none⟩) 1 1, .slice (some ⟨g2_, 0, none⟩) 1 1, .slice (some ⟨g3_, 0, none⟩) 1 1, .slice (some ⟨g4_, 0, none⟩) 1 1, .map (some gm_)]), m10_, m11_, (by rw [ha.out]; exact putSel_upk 8 hb_ rfl rfl rfl), Q_HB, Q_BS, Q_L1, Q_L2, Q_L3, Q_L4, Q_D24, fun _ h1_ => absurd ((hon 7 (by kernel_rfl)).symm.trans h1_) (by decide), Q_M1, fun h0_ => absurd ((hoff 10 (by kernel_rfl)).symm.trans h0_) (by decide), Q_X1_, Q_X2_, Q_X3_, Q_X4_, Q_X5_, Q_X8_, fun _ => rfl, fun h0_ => absurd ((hoff 10 (by kernel_rfl)).symm.trans h0_) (by decide), fun h0_ => absurd ((hoff 11 (by kernel_rfl)).symm.trans h0_) (by decide)⟩
   refine steps_cons ?_ ?_
   ·rintro b a w' ⟨g1_, g2_, g3_, g4_, gm_, gr_, m1_, m2_, m3_, m4_, m5_, m8_, m9_, m10_, m11_, ha, Q_HB, Q_BS, Q_L1, Q_L2, Q_L3, Q_L4, Q_D24, Q_M0, Q_M1, Q_BX, Q_X1_, Q_X2_, Q_X3_, Q_X4_, Q_X5_, Q_X8_, Q_X9_, Q_X10_, Q_X11_⟩ hb_ hon hoff
    refine ⟨_, rfl, fun K hK => ?_⟩
    have e20 : a.tmps[20]? = some (m9_) := by rw [ha]; exact putSel_on (e := (9, 20, m9_)) 8 rfl rfl (hon 9 (by kernel_rfl)) rfl
    rw [Q_X9_ (hon 9 (by kernel_rfl))] at e20
    replace ha := am ha
    have HB := am Q_HB
    have BS := am Q_BS
    have L1 := am (Q_L1 (hon 1 (by kernel_rfl)))
    have L2 := am (Q_L2 (hon 2 (by kernel_rfl)))
    have L3 := am (Q_L3 (hon 3 (by kernel_rfl)))
    have L4 := am (Q_L4 (hon 4 (by kernel_rfl)))
    have D24 := am (Q_D24 (hon 2 (by kernel_rfl)) (hon 4 (by kernel_rfl)))
    have M1 := am (Q_M1 (hon 7 (by kernel_rfl)))
    refine value_ (w1 := ?_) (v := ?_) (by rfl) rfl ?_ ?_
    rotate_left 2
    ·go_simp
     constructor
     ·rfl
     ·rfl
    refine hK.out _ _ ⟨g1_, g2_, g3_, g4_, gm_, w'.heap.size, m1_, m2_, m3_, m4_, m5_, m8_, m9_, (.pointer (some ⟨w'.heap.size, 0, none⟩)), m11_, (by rw [ha.out]; exact putSel_upk 9 hb_ rfl rfl rfl), below_alloc HB.out _, blk_alloc BS.out _, fun _ => ⟨blk_alloc L1.out.1 _, L1.out.2⟩, fun _ => ⟨blk_alloc L2.out.1 _, L2.out.2⟩, fun _ => ⟨blk_alloc L3.out.1 _, L3.out.2⟩, fun _ => ⟨blk_alloc L4.out.1 _, L4.out.2⟩, Q_D24, fun _ h1_ => absurd ((hon 7 (by kernel_rfl)).symm.trans h1_) (by decide), fun _ => ⟨holds_below M1.out.1 (below_alloc (Below.refl _ _) _), M1.out.2⟩, fun _ => ⟨blk_new _ _, HB.out.size⟩, Q_X1_, Q_X2_, Q_X3_, Q_X4_, Q_X5_, Q_X8_, Q_X9_, fun _ => rfl, fun h0_ => absurd ((hoff 11 (by kernel_rfl)).symm.trans h0_) (by decide)⟩
   refine steps_cons ?_ ?_
   ·rintro b a w' ⟨g1_, g2_, g3_, g4_, gm_, gr_, m1_, m2_, m3_, m4_, m5_, m8_, m9_, m10_, m11_, ha, Q_HB, Q_BS, Q_L1, Q_L2, Q_L3, Q_L4, Q_D24, Q_M0, Q_M1, Q_BX, Q_X1_, Q_X2_, Q_X3_, Q_X4_, Q_X5_, Q_X8_, Q_X9_, Q_X10_, Q_X11_⟩ hb_ hon hoff
    refine ⟨_, rfl, fun K hK => ?_⟩
    have e21 : a.tmps[21]? = some (m10_) := by rw [ha]; exact putSel_on (e := (10, 21, m10_)) 9 rfl rfl (hon 10 (by kernel_rfl)) rfl
    rw [Q_X10_ (hon 10 (by kernel_rfl))] at e21
    replace ha := am ha
    have HB := am Q_HB
    have BS := am Q_BS
    have L1 := am (Q_L1 (hon 1 (by kernel_rfl)))
    have L2 := am (Q_L2 (hon 2 (by kernel_rfl)))
    have L3 := am (Q_L3 (hon 3 (by kernel_rfl)))
    have L4 := am (Q_L4 (hon 4 (by kernel_rfl)))
    have D24 := am (Q_D24 (hon 2 (by kernel_rfl)) (hon 4 (by kernel_rfl)))
    have M1 := am (Q_M1 (hon 7 (by kernel_rfl)))
    have BX := am (Q_BX (hon 10 (by kernel_rfl)))
    refine value_ (w1 := w') (v := .pointer (some ⟨gr_, 0, none⟩)) (by rfl) rfl ?_ ?_
    ·go_simp
     (try simp only [i64_w])
     try rfl
    refine hK.out _ _ ⟨g1_, g2_, g3_, g4_, gm_, gr_, m1_, m2_, m3_, m4_, m5_, m8_, m9_, m10_, (.pointer (some ⟨gr_, 0, none⟩)), (by rw [ha.out]; exact putSel_upk 10 hb_ rfl rfl rfl), Q_HB, Q_BS, Q_L1, Q_L2, Q_L3, Q_L4, Q_D24, fun _ h1_ => absurd ((hon 7 (by kernel_rfl)).symm.trans h1_) (by decide), Q_M1, Q_BX, Q_X1_, Q_X2_, Q_X3_, Q_X4_, Q_X5_, Q_X8_, Q_X9_, Q_X10_, fun _ => rfl⟩
   exact steps_nil
  ·rintro b a w' hall ⟨g1_, g2_, g3_, g4_, gm_, gr_, m1_, m2_, m3_, m4_, m5_, m8_, m9_, m10_, m11_, ha, Q_HB, Q_BS, Q_L1, Q_L2, Q_L3, Q_L4, Q_D24, Q_M0, Q_M1, Q_BX, Q_X1_, Q_X2_, Q_X3_, Q_X4_, Q_X5_, Q_X8_, Q_X9_, Q_X10_, Q_X11_⟩
   clear BS HB
   have hb0_ := hall 0 (by kernel_rfl)
   have hb1_ := hall 1 (by kernel_rfl)
   have hb2_ := hall 2 (by kernel_rfl)
   have hb3_ := hall 3 (by kernel_rfl)
   have hb4_ := hall 4 (by kernel_rfl)
   have hb5_ := hall 5 (by kernel_rfl)
   have hb6_ := hall 6 (by kernel_rfl)
   have hb7_ := hall 7 (by kernel_rfl)
   have hb8_ := hall 8 (by kernel_rfl)
   have hb9_ := hall 9 (by kernel_rfl)
   have hb10_ := hall 10 (by kernel_rfl)
   have hb11_ := hall 11 (by kernel_rfl)
   subst ha
   obtain rfl := Q_X1_ hb1_
   obtain rfl := Q_X2_ hb2_
   obtain rfl := Q_X3_ hb3_
   obtain rfl := Q_X4_ hb4_
   obtain rfl := Q_X5_ hb5_
   obtain rfl := Q_X8_ hb8_
   obtain rfl := Q_X9_ hb9_
   obtain rfl := Q_X10_ hb10_
   obtain rfl := Q_X11_ hb11_
   simp only [putSel, hb0_, hb1_, hb2_, hb3_, hb4_, hb5_, hb6_, hb7_, hb8_, hb9_, hb10_, hb11_, if_true, Act.put, List.setIfInBounds_toArray, List.set_cons_zero, List.set_cons_succ]
   have HB := am Q_HB
   clear Q_HB
   have BS := am Q_BS
   clear Q_BS
   have L1 := am (Q_L1 hb1_)
   clear Q_L1
   have L2 := am (Q_L2 hb2_)
   clear Q_L2
   have L3 := am (Q_L3 hb3_)
   clear Q_L3
   have L4 := am (Q_L4 hb4_)
   clear Q_L4
   have D24 := am (Q_D24 hb2_ hb4_)
   clear Q_D24
   clear Q_M0
   have M1 := am (Q_M1 hb7_)
   clear Q_M1
   have BX := am (Q_BX hb10_)
   clear Q_BX
   clear hall hb0_ hb1_ hb2_ hb3_ hb4_ hb5_ hb6_ hb7_ hb8_ hb9_ hb10_ hb11_
   go_wp2_with fail
   go_meet
   exact show ∃ Br M v0 v1 v2 v3, (Value.pointer (some ⟨gr_, 0, none⟩) : Value) = .pointer (some ⟨Br, 0, none⟩) ∧ RS w w' Br M [(s0, [])] v0 v1 v2 v3 from ⟨gr_, gm_, _, _, _, _, rfl, startRS HB.out L1.out L2.out L3.out L4.out D24.out M1.out BX.out⟩
 case rest =>
  obtain ⟨Br, M, v0, v1, v2, v3, rfl, hrs⟩ := hcut
  have H0 := hid hrs
  clear hrs
  go_wp2_with fail
  go_loopw [6] (fun v6 wr => ∃ (k : Nat) (L : Bfs.Nodes St), v6 = .int .i64 (k : Int) ∧ At mo can s0 w wr Br M L k) (fun v6 _ => 1001 - (intOf v6).toNat)
  case atStart => exact ⟨0, _, rfl, ⟨_, _, _, _, H0.out⟩, Bfs.inv_start _ s0, by simp, rfl⟩
  case round =>
   clear H0
   obtain ⟨k, L, rfl, hat⟩ := hrel
   have HA := hid hat
   clear hat
   by_cases hlt : k < L.length
   ·obtain ⟨v0, v1, v2, v3, hr0⟩ := HA.out.rs
    have hls := HSM.out _ _ _ HA.out.inv
    obtain ⟨b0, c0, hv0, _, _⟩ := R_form hr0.r0 (by simp; omega)
    subst hv0
    obtain ⟨n, hn⟩ : ∃ n, n = (L.map fun x => sSt x.1).length := ⟨_, rfl⟩
    rw [← hn] at hr0
    have hq0 : wr.cell? ⟨Br, 0, none⟩ = some (.slice (some ⟨b0, 0, none⟩) n c0) := blk_cell hr0.blk 0
    have hkn : (k : Int) < (n : Int) := by rw [hn]; simp; exact hlt
    clear hr0 hn
    go_wp2_with fail
    clear hq0 hkn
    go_loopw [31] (fun v31 wx => ∃ i : Nat, v31 = .int .i64 (i : Int) ∧ i ≤ 4 ∧ ∃ v0 v1 v2 v3, RS w wx Br M (Bfs.some_ (mvf mo can) L k i) v0 v1 v2 v3) (fun v31 _ => 4 - (intOf v31).toNat)
    case atStart => exact ⟨0, rfl, by omega, HA.out.rs⟩
    case round =>
     obtain ⟨i, rfl, hi, hrs⟩ := hrel
     have HR := hid hrs
     clear hrs
     by_cases hi4 : i < 4
     ·obtain ⟨v0, v1, v2, v3, hr⟩ := HR.out
      obtain ⟨hin, hkl⟩ := Bfs.inv_some (mvf mo can) HA.out.inv hlt i hi
      have hls2 := HSM.out _ _ _ hin
      obtain ⟨x, hx⟩ : ∃ x, (Bfs.some_ (mvf mo can) L k i)[k]? = some x := ⟨_, List.getElem?_eq_getElem hkl⟩
      obtain ⟨L1, hL1⟩ : ∃ L1, L1 = Bfs.some_ (mvf mo can) L k i := ⟨_, rfl⟩
      rw [← hL1] at hr hin hkl hls2 hx
      obtain ⟨b0, c0, hv0, _, _⟩ := R_form hr.r0 (by simp; omega)
      obtain ⟨b1, c1, hv1, _, _⟩ := R_form hr.r1 (by simp; omega)
      obtain ⟨b2, c2, hv2, _, _⟩ := R_form hr.r2 (by simp; omega)
      obtain ⟨b3, c3, hv3, _, _⟩ := R_form hr.r3 (by simp; omega)
      rw [List.length_map] at hv0 hv1 hv2 hv3
      subst hv0 hv1 hv2 hv3
      obtain ⟨n, hn⟩ : ∃ n, n = L1.length := ⟨_, rfl⟩
      rw [← hn] at hr hkl hls2
      obtain ⟨xs0, hxs0⟩ : ∃ xs0, xs0 = L1.map fun x => sSt x.1 := ⟨_, rfl⟩
      obtain ⟨xs1, hxs1⟩ : ∃ xs1, xs1 = L1.map (frm L1) := ⟨_, rfl⟩
      obtain ⟨xs2, hxs2⟩ : ∃ xs2, xs2 = L1.map fun x => lastD x.2 := ⟨_, rfl⟩
      obtain ⟨xs3, hxs3⟩ : ∃ xs3, xs3 = L1.map fun x => (x.2.length : Int) := ⟨_, rfl⟩
      obtain ⟨ks, hks⟩ : ∃ ks, ks = L1.map (·.1) := ⟨_, rfl⟩
      have A0 := hid (hxs0 ▸ hr.r0)
      have A1 := hid (hxs1 ▸ hr.r1)
      have A2 := hid (hxs2 ▸ hr.r2)
      have A3 := hid (hxs3 ▸ hr.r3)
      have HM := hid (hks ▸ hr.map)
      have HB := hid hr.bel
      have BR := hid hr.blk
      have HNE := hid (fun e => hr.ne b1 rfl (by rw [e]; rfl) : b3 ≠ b1)
      have HBG := hid (And.intro hr.big hr.bigM)
      obtain ⟨t, ht⟩ : ∃ t, t = x.1 := ⟨_, rfl⟩
      have HX := hid (show xs0[k]? = some (sSt t) by rw [hxs0, List.getElem?_map, hx, ht]; rfl)
      have hgt : Gd t := good_in HS0.out HGD.out hin x.1 x.2 (by rw [Prod.eta]; exact List.mem_of_getElem? hx) |> fun h => ht ▸ h
      have HMV := hid (fun W hW => HMV0.out t i hgt hi4 W hW)
      obtain ⟨u, hu⟩ : ∃ u, u = mo t i := ⟨_, rfl⟩
      obtain ⟨cn, hcn⟩ : ∃ cn, cn = can t i := ⟨_, rfl⟩
      rw [← hu, ← hcn] at HMV
      have HU := hid hu
      have HCN := hid hcn
      have HX1 := hid hx
      have HT := hid ht
      have HI := hid hin
      have HL1 := hid hL1
      have HN := hid hn
      have HXS := hid (And.intro hxs0 (And.intro hxs1 (And.intro hxs2 (And.intro hxs3 hks))))
      clear hr hin hx ht hgt hu hcn hL1 hn hxs0 hxs1 hxs2 hxs3 hks HR
      go_upto_region 8 with fail
      refine start_ (n := 17) (S := fun w' => True) (ds := []) #[ff, ff, ff, ff, ff, ff, ff, ff, ff, ff, ff, ff, ff, ff, ff, ff, ff] (by kernel_rfl) rfl rfl trivial (fun hHeld => ?_)
      refine with_tabW rch.tab8 rch.bits8 (fun HT_ HW_ => ?_)
      have n_HB := hid (below_drew HB.out)
      have n_BR := hid (blk_drew BR.out)
      have n_A0 := hid (Kd.R_drew A0.out)
      have n_A1 := hid (Kd.R_drew A1.out)
      have n_A2 := hid (Kd.R_drew A2.out)
      have n_A3 := hid (Kd.R_drew A3.out)
      have n_HM := hid (holds_below HM.out (below_drew (Below.refl _ _)))
      clear HB BR A0 A1 A2 A3 HM
      have HB := n_HB
      have BR := n_BR
      have A0 := n_A0
      have A1 := n_A1
      have A2 := n_A2
      have A3 := n_A3
      have HM := n_HM
      clear n_HB n_BR n_A0 n_A1 n_A2 n_A3 n_HM
      generalize World.drew _ = w8 at HB BR A0 A1 A2 A3 HM hHeld ⊢
      refine pure_ (i := 0) (N := some 35) (v := ?_) (a' := ?_) #[tt, ff, ff, ff, ff, ff, ff, ff, ff, ff, ff, ff, ff, ff, ff, ff, ff] rfl rfl (any_of HT_.out (by kernel_rfl)) (fun _ _ _ h => h) (Or.inl ⟨by rfl, ?_⟩) ?_ ?_
      rotate_left
      ·intro w'
       go_simp
       with_reducible rfl
      rotate_left
      ·simp only [Act.put, List.setIfInBounds_toArray, List.set_cons_zero, List.set_cons_succ, i64_w, i32_w]
       rfl
      refine pure_ (i := 1) (N := some 36) (v := ?_) (a' := ?_) #[tt, tt, ff, ff, ff, ff, ff, ff, ff, ff, ff, ff, ff, ff, ff, ff, ff] rfl rfl (any_of HT_.out (by kernel_rfl)) (fun _ _ _ h => h) (Or.inl ⟨by rfl, ?_⟩) ?_ ?_
      rotate_left
      ·intro w'
       go_simp
       with_reducible rfl
      rotate_left
      ·simp only [Act.put, List.setIfInBounds_toArray, List.set_cons_zero, List.set_cons_succ, i64_w, i32_w]
       rfl
      refine pure_ (i := 2) (N := some 37) (v := ?_) (a' := ?_) #[tt, tt, tt, ff, ff, ff, ff, ff, ff, ff, ff, ff, ff, ff, ff, ff, ff] rfl rfl (any_of HT_.out (by kernel_rfl)) (fun _ _ _ h => h) (Or.inl ⟨by rfl, ?_⟩) ?_ ?_
      rotate_left
      ·intro w'
       go_simp
       with_reducible rfl
      rotate_left
      ·simp only [Act.put, List.setIfInBounds_toArray, List.set_cons_zero, List.set_cons_succ, i64_w, i32_w]
       rfl
      refine pure_ (i := 3) (N := some 38) (v := ?_) (a' := ?_) #[tt, tt, tt, tt, ff, ff, ff, ff, ff, ff, ff, ff, ff, ff, ff, ff, ff] rfl rfl (any_of HT_.out (by kernel_rfl)) (fun _ _ _ h => h) (Or.inl ⟨by rfl, ?_⟩) ?_ ?_
      rotate_left
      ·intro w'
       go_simp
       with_reducible rfl
      rotate_left
      ·simp only [Act.put, List.setIfInBounds_toArray, List.set_cons_zero, List.set_cons_succ, i64_w, i32_w]
       rfl
      refine pure_ (i := 5) (N := some 40) (v := ?_) (a' := ?_) #[tt, tt, tt, tt, ff, tt, ff, ff, ff, ff, ff, ff, ff, ff, ff, ff, ff] rfl rfl (any_of HT_.out (by kernel_rfl)) (fun _ _ _ h => h) (Or.inl ⟨by rfl, ?_⟩) ?_ ?_
      rotate_left
      ·intro w'
       go_simp
       with_reducible rfl
      rotate_left
      ·simp only [Act.put, List.setIfInBounds_toArray, List.set_cons_zero, List.set_cons_succ, i64_w, i32_w]
       rfl
      refine pure_ (i := 8) (N := some 43) (v := ?_) (a' := ?_) #[tt, tt, tt, tt, ff, tt, ff, ff, tt, ff, ff, ff, ff, ff, ff, ff, ff] rfl rfl (any_of HT_.out (by kernel_rfl)) (fun _ _ _ h => h) (Or.inl ⟨by rfl, ?_⟩) ?_ ?_
      rotate_left
      ·intro w'
       go_simp
       with_reducible rfl
      rotate_left
      ·simp only [Act.put, List.setIfInBounds_toArray, List.set_cons_zero, List.set_cons_succ, i64_w, i32_w]
       rfl
      refine inv_at [4, 6, 7, 9, 10, 11, 12, 13, 14, 15, 16] (fun a0_ b a w' => ∃ (go_ : Nat) (m14_ : Value), a = putSel a0_ b [(4, 39, .slice (some ⟨b0, 0, none⟩) n c0), (6, 41, .pointer (some ⟨b0, k * 8, none⟩)), (7, 42, .agg #[.int .i64 t.x, .int .i64 t.y, .int .i64 t.d.t, .int .i64 t.d.n, .int .i64 t.d.e, .int .i64 t.d.s, .int .i64 t.d.w, .int .i64 t.d.b]), (9, 44, .int .u8 (byt i)), (10, 45, .tuple #[.agg #[.int .i64 u.x, .int .i64 u.y, .int .i64 u.d.t, .int .i64 u.d.n, .int .i64 u.d.e, .int .i64 u.d.s, .int .i64 u.d.w, .int .i64 u.d.b], .bool cn]), (11, 34, .tuple #[.agg #[.int .i64 u.x, .int .i64 u.y, .int .i64 u.d.t, .int .i64 u.d.n, .int .i64 u.d.e, .int .i64 u.d.s, .int .i64 u.d.w, .int .i64 u.d.b], .bool cn]), (12, 46, .agg #[.int .i64 u.x, .int .i64 u.y, .int .i64 u.d.t, .int .i64 u.d.n, .int .i64 u.d.e, .int .i64 u.d.s, .int .i64 u.d.w, .int .i64 u.d.b]), (13, 47, .bool cn), (14, 8, m14_), (16, 9, .bool cn)] ∧ (Below w.heap.size w w') ∧ (w'.heap[Br]? = some (.cells #[.slice (some ⟨b0, 0, none⟩) n c0, .slice (some ⟨b1, 0, none⟩) n c1, .slice (some ⟨b2, 0, none⟩) n c2, .slice (some ⟨b3, 0, none⟩) n c3, .map (some M)] 65 (0, 0))) ∧ (Kd.R kSt 30 w' w.heap.size (fun _ => True) (.slice (some ⟨b0, 0, none⟩) n c0) xs0) ∧ (Kd.R (Kd.int .i64) 3 w' w.heap.size (fun _ => True) (.slice (some ⟨b1, 0, none⟩) n c1) xs1) ∧ (Kd.R (Kd.int .u8) 5 w' w.heap.size (fun _ => True) (.slice (some ⟨b2, 0, none⟩) n c2) xs2) ∧ (Kd.R (Kd.int .i64) 3 w' w.heap.size (fun _ => True) (.slice (some ⟨b3, 0, none⟩) n c3) xs3) ∧ (holds w' encSt valN M ks) ∧ (b 14 = true → b 15 = false → w'.heap[go_]? = some (.cells #[.int .i64 0, .int .i64 0, .int .i64 0, .int .i64 0, .int .i64 0, .int .i64 0, .int .i64 0, .int .i64 0] 30 (0, 0)) ∧ w.heap.size ≤ go_ ∧ b0 < go_) ∧ (b 15 = true → w'.heap[go_]? = some (.cells (st8 u) 30 (0, 0)) ∧ w.heap.size ≤ go_ ∧ b0 < go_) ∧ (b 14 = true → (m14_ : Value) = .pointer (some ⟨go_, 0, none⟩))) HT_.out HW_.out (by kernel_rfl) (by kernel_rfl) ?_ ?_ ?_
      ·exact ⟨0, .bool false, by simp only [putSel, Bool.false_eq_true, if_false], HB.out, BR.out, A0.out, A1.out, A2.out, A3.out, HM.out, fun h_ => absurd h_ (by decide), fun h_ => absurd h_ (by decide), fun h_ => absurd h_ (by decide)⟩
      ·skip
       clear A0 A1 A2 A3 BR HB HM
       refine steps_cons ?_ ?_
       ·rintro b a w' ⟨go_, m14_, ha, Q_HB, Q_BR, Q_A0, Q_A1, Q_A2, Q_A3, Q_HM, Q_Z0, Q_BO, Q_X14_⟩ hb_ hon hoff
        refine ⟨_, rfl, fun K hK => ?_⟩
        have e38 : a.tmps[38]? = some (.pointer (some ⟨Br, 0, none⟩)) := by rw [ha]; exact (putSel_off rfl).trans rfl
        replace ha := am ha
        have HB := am Q_HB
        have BR := am Q_BR
        have A0 := am Q_A0
        have A1 := am Q_A1
        have A2 := am Q_A2
        have A3 := am Q_A3
        have HM := am Q_HM
        have hv_ : w'.cell? ⟨Br, 0, none⟩ = some (.slice (some ⟨b0, 0, none⟩) n c0) := blk_cell BR.out 0
        refine value_ (w1 := w') (v := .slice (some ⟨b0, 0, none⟩) n c0) (by rfl) rfl ?_ ?_
        ·go_simp
         (try simp only [i64_w])
         try rfl
        refine hK.out _ _ ⟨go_, m14_, (by rw [ha.out]; exact putSel_upk 0 hb_ rfl rfl rfl), Q_HB, Q_BR, Q_A0, Q_A1, Q_A2, Q_A3, Q_HM, Q_Z0, fun h0_ => absurd ((hoff 15 (by kernel_rfl)).symm.trans h0_) (by decide), Q_X14_⟩
       refine steps_cons ?_ ?_
       ·rintro b a w' ⟨go_, m14_, ha, Q_HB, Q_BR, Q_A0, Q_A1, Q_A2, Q_A3, Q_HM, Q_Z0, Q_BO, Q_X14_⟩ hb_ hon hoff
        refine ⟨_, rfl, fun K hK => ?_⟩
        have e39 : a.tmps[39]? = some (.slice (some ⟨b0, 0, none⟩) n c0) := by rw [ha]; exact putSel_on (e := (4, 39, .slice (some ⟨b0, 0, none⟩) n c0)) 0 rfl rfl (hon 4 (by kernel_rfl)) rfl
        have e40 : a.tmps[40]? = some (.int .i64 (k : Int)) := by rw [ha]; exact (putSel_off rfl).trans rfl
        replace ha := am ha
        have HB := am Q_HB
        have BR := am Q_BR
        have A0 := am Q_A0
        have A1 := am Q_A1
        have A2 := am Q_A2
        have A3 := am Q_A3
        have HM := am Q_HM
        have hk_ : (k : Int) < (n : Int) := by omega
        refine value_ (w1 := w') (v := .pointer (some ⟨b0, k * 8, none⟩)) (by rfl) rfl ?_ ?_
        ·go_simp
         (try simp only [i64_w])
         try rfl
        refine hK.out _ _ ⟨go_, m14_, (by rw [ha.out]; exact putSel_upk 1 hb_ rfl rfl rfl), Q_HB, Q_BR, Q_A0, Q_A1, Q_A2, Q_A3, Q_HM, Q_Z0, fun h0_ => absurd ((hoff 15 (by kernel_rfl)).symm.trans h0_) (by decide), Q_X14_⟩
       refine steps_cons ?_ ?_
       ·rintro b a w' ⟨go_, m14_, ha, Q_HB, Q_BR, Q_A0, Q_A1, Q_A2, Q_A3, Q_HM, Q_Z0, Q_BO, Q_X14_⟩ hb_ hon hoff
        refine ⟨_, rfl, fun K hK => ?_⟩
        have e41 : a.tmps[41]? = some (.pointer (some ⟨b0, k * 8, none⟩)) := by rw [ha]; exact putSel_on (e := (6, 41, .pointer (some ⟨b0, k * 8, none⟩))) 1 rfl rfl (hon 6 (by kernel_rfl)) rfl
        replace ha := am ha
        have HB := am Q_HB
        have BR := am Q_BR
        have A0 := am Q_A0
        have A1 := am Q_A1
        have A2 := am Q_A2
        have A3 := am Q_A3
        have HM := am Q_HM
        obtain ⟨s0, s1, s2, s3, s4, s5, s6, s7⟩ := st_cells A0.out k t HX.out
        refine value_ (w1 := w') (v := .agg #[.int .i64 t.x, .int .i64 t.y, .int .i64 t.d.t, .int .i64 t.d.n, .int .i64 t.d.e, .int .i64 t.d.s, .int .i64 t.d.w, .int .i64 t.d.b]) (by rfl) rfl ?_ ?_
        ·go_simp
         (try simp only [i64_w])
         try rfl
        refine hK.out _ _ ⟨go_, m14_, (by rw [ha.out]; exact putSel_upk 2 hb_ rfl rfl rfl), Q_HB, Q_BR, Q_A0, Q_A1, Q_A2, Q_A3, Q_HM, Q_Z0, fun h0_ => absurd ((hoff 15 (by kernel_rfl)).symm.trans h0_) (by decide), Q_X14_⟩
       refine steps_cons ?_ ?_
       ·rintro b a w' ⟨go_, m14_, ha, Q_HB, Q_BR, Q_A0, Q_A1, Q_A2, Q_A3, Q_HM, Q_Z0, Q_BO, Q_X14_⟩ hb_ hon hoff
        refine ⟨_, rfl, fun K hK => ?_⟩
        have e43 : a.tmps[43]? = some (.int .i64 (i : Int)) := by rw [ha]; exact (putSel_off rfl).trans rfl
        replace ha := am ha
        have HB := am Q_HB
        have BR := am Q_BR
        have A0 := am Q_A0
        have A1 := am Q_A1
        have A2 := am Q_A2
        have A3 := am Q_A3
        have HM := am Q_HM
        have hix_ := index_dir i hi4
        refine value_ (w1 := w') (v := .int .u8 (byt i)) (by rfl) rfl ?_ ?_
        ·go_simp
         (try simp only [i64_w])
         try rfl
        refine hK.out _ _ ⟨go_, m14_, (by rw [ha.out]; exact putSel_upk 3 hb_ rfl rfl rfl), Q_HB, Q_BR, Q_A0, Q_A1, Q_A2, Q_A3, Q_HM, Q_Z0, fun h0_ => absurd ((hoff 15 (by kernel_rfl)).symm.trans h0_) (by decide), Q_X14_⟩
       refine steps_cons ?_ ?_
       ·rintro b a w' ⟨go_, m14_, ha, Q_HB, Q_BR, Q_A0, Q_A1, Q_A2, Q_A3, Q_HM, Q_Z0, Q_BO, Q_X14_⟩ hb_ hon hoff
        refine ⟨_, rfl, fun K hK => ?_⟩
        have e35 : a.tmps[35]? = some (.func (.func 19) #[sl] #[]) := by rw [ha]; exact (putSel_off rfl).trans rfl
        have e42 : a.tmps[42]? = some (.agg #[.int .i64 t.x, .int .i64 t.y, .int .i64 t.d.t, .int .i64 t.d.n, .int .i64 t.d.e, .int .i64 t.d.s, .int .i64 t.d.w, .int .i64 t.d.b]) := by rw [ha]; exact putSel_on (e := (7, 42, .agg #[.int .i64 t.x, .int .i64 t.y, .int .i64 t.d.t, .int .i64 t.d.n, .int .i64 t.d.e, .int .i64 t.d.s, .int .i64 t.d.w, .int .i64 t.d.b])) 2 rfl rfl (hon 7 (by kernel_rfl)) rfl
        have e44 : a.tmps[44]? = some (.int .u8 (byt i)) := by rw [ha]; exact putSel_on (e := (9, 44, .int .u8 (byt i))) 3 rfl rfl (hon 9 (by kernel_rfl)) rfl
        replace ha := am ha
        have HB := am Q_HB
        have BR := am Q_BR
        have A0 := am Q_A0
        have A1 := am Q_A1
        have A2 := am Q_A2
        have A3 := am Q_A3
        have HM := am Q_HM
        refine call_ 19 #[sl, .agg #[.int .i64 t.x, .int .i64 t.y, .int .i64 t.d.t, .int .i64 t.d.n, .int .i64 t.d.e, .int .i64 t.d.s, .int .i64 t.d.w, .int .i64 t.d.b], .int .u8 (byt i)] (by rfl) rfl ?_ ?_
        ·go_simp
         (try rfl)
        with_reducible refine (HMV.out w' HB.out).mono ?_
        rintro e' w1 ⟨rfl, hb⟩
        refine ⟨_, rfl, ?_⟩
        refine hK.out _ _ ⟨go_, m14_, (by rw [ha.out]; exact putSel_upk 4 hb_ rfl rfl rfl), below_then HB.out HB.out.size hb, blk_below BR.out hb, Kd.R_below A0.out hb, Kd.R_below A1.out hb, Kd.R_below A2.out hb, Kd.R_below A3.out hb, holds_below HM.out hb, fun h0_ h1_ => ⟨blk_below (Q_Z0 h0_ h1_).1 hb, (Q_Z0 h0_ h1_).2⟩, fun h0_ => absurd ((hoff 15 (by kernel_rfl)).symm.trans h0_) (by decide), Q_X14_⟩
       refine steps_cons ?_ ?_
       ·rintro b a w' ⟨go_, m14_, ha, Q_HB, Q_BR, Q_A0, Q_A1, Q_A2, Q_A3, Q_HM, Q_Z0, Q_BO, Q_X14_⟩ hb_ hon hoff
        refine ⟨_, rfl, fun K hK => ?_⟩
        have e45 : a.tmps[45]? = some (.tuple #[.agg #[.int .i64 u.x, .int .i64 u.y, .int .i64 u.d.t, .int .i64 u.d.n, .int .i64 u.d.e, .int .i64 u.d.s, .int .i64 u.d.w, .int .i64 u.d.b], .bool cn]) := by rw [ha]; exact putSel_on (e := (10, 45, .tuple #[.agg #[.int .i64 u.x, .int .i64 u.y, .int .i64 u.d.t, .int .i64 u.d.n, .int .i64 u.d.e, .int .i64 u.d.s, .int .i64 u.d.w, .int .i64 u.d.b], .bool cn])) 4 rfl rfl (hon 10 (by kernel_rfl)) rfl
        replace ha := am ha
        have HB := am Q_HB
        have BR := am Q_BR
        have A0 := am Q_A0
        have A1 := am Q_A1
        have A2 := am Q_A2
        have A3 := am Q_A3
        have HM := am Q_HM
        refine value_ (w1 := w') (v := .tuple #[.agg #[.int .i64 u.x, .int .i64 u.y, .int .i64 u.d.t, .int .i64 u.d.n, .int .i64 u.d.e, .int .i64 u.d.s, .int .i64 u.d.w, .int .i64 u.d.b], .bool cn]) (by rfl) rfl ?_ ?_
        ·go_simp
         (try simp only [i64_w])
         try rfl
        refine hK.out _ _ ⟨go_, m14_, (by rw [ha.out]; exact putSel_upk 5 hb_ rfl rfl rfl), Q_HB, Q_BR, Q_A0, Q_A1, Q_A2, Q_A3, Q_HM, Q_Z0, fun h0_ => absurd ((hoff 15 (by kernel_rfl)).symm.trans h0_) (by decide), Q_X14_⟩
       refine steps_cons ?_ ?_
       ·rintro b a w' ⟨go_, m14_, ha, Q_HB, Q_BR, Q_A0, Q_A1, Q_A2, Q_A3, Q_HM, Q_Z0, Q_BO, Q_X14_⟩ hb_ hon hoff
        refine ⟨_, rfl, fun K hK => ?_⟩
        have e34 : a.tmps[34]? = some (.tuple #[.agg #[.int .i64 u.x, .int .i64 u.y, .int .i64 u.d.t, .int .i64 u.d.n, .int .i64 u.d.e, .int .i64 u.d.s, .int .i64 u.d.w, .int .i64 u.d.b], .bool cn]) := by rw [ha]; exact putSel_on (e := (11, 34, .tuple #[.agg #[.int .i64 u.x, .int .i64 u.y, .int .i64 u.d.t, .int .i64 u.d.n, .int .i64 u.d.e, .int .i64 u.d.s, .int .i64 u.d.w, .int .i64 u.d.b], .bool cn])) 5 rfl rfl (hon 11 (by kernel_rfl)) rfl
        replace ha := am ha
        have HB := am Q_HB
        have BR := am Q_BR
        have A0 := am Q_A0
        have A1 := am Q_A1
        have A2 := am Q_A2
        have A3 := am Q_A3
        have HM := am Q_HM
        refine value_ (w1 := w') (v := .agg #[.int .i64 u.x, .int .i64 u.y, .int .i64 u.d.t, .int .i64 u.d.n, .int .i64 u.d.e, .int .i64 u.d.s, .int .i64 u.d.w, .int .i64 u.d.b]) (by rfl) rfl ?_ ?_
        ·go_simp
         (try simp only [i64_w])
         try rfl
        refine hK.out _ _ ⟨go_, m14_, (by rw [ha.out]; exact putSel_upk 6 hb_ rfl rfl rfl), Q_HB, Q_BR, Q_A0, Q_A1, Q_A2, Q_A3, Q_HM, Q_Z0, fun h0_ => absurd ((hoff 15 (by kernel_rfl)).symm.trans h0_) (by decide), Q_X14_⟩
       refine steps_cons ?_ ?_
       ·rintro b a w' ⟨go_, m14_, ha, Q_HB, Q_BR, Q_A0, Q_A1, Q_A2, Q_A3, Q_HM, Q_Z0, Q_BO, Q_X14_⟩ hb_ hon hoff
        refine ⟨_, rfl, fun K hK => ?_⟩
        have e34 : a.tmps[34]? = some (.tuple #[.agg #[.int .i64 u.x, .int .i64 u.y, .int .i64 u.d.t, .int .i64 u.d.n, .int .i64 u.d.e, .int .i64 u.d.s, .int .i64 u.d.w, .int .i64 u.d.b], .bool cn]) := by rw [ha]; exact putSel_on (e := (11, 34, .tuple #[.agg #[.int .i64 u.x, .int .i64 u.y, .int .i64 u.d.t, .int .i64 u.d.n, .int .i64 u.d.e, .int .i64 u.d.s, .int .i64 u.d.w, .int .i64 u.d.b], .bool cn])) 5 rfl rfl (hon 11 (by kernel_rfl)) rfl
        replace ha := am ha
        have HB := am Q_HB
        have BR := am Q_BR
        have A0 := am Q_A0
        have A1 := am Q_A1
        have A2 := am Q_A2
        have A3 := am Q_A3
        have HM := am Q_HM
        refine value_ (w1 := w') (v := .bool cn) (by rfl) rfl ?_ ?_
        ·go_simp
         (try simp only [i64_w])
         try rfl
        refine hK.out _ _ ⟨go_, m14_, (by rw [ha.out]; exact putSel_upk 7 hb_ rfl rfl rfl), Q_HB, Q_BR, Q_A0, Q_A1, Q_A2, Q_A3, Q_HM, Q_Z0, Q_BO, Q_X14_⟩
       refine steps_cons ?_ ?_
       ·rintro b a w' ⟨go_, m14_, ha, Q_HB, Q_BR, Q_A0, Q_A1, Q_A2, Q_A3, Q_HM, Q_Z0, Q_BO, Q_X14_⟩ hb_ hon hoff
        refine ⟨_, rfl, fun K hK => ?_⟩
        replace ha := am ha
        have HB := am Q_HB
        have BR := am Q_BR
        have A0 := am Q_A0
        have A1 := am Q_A1
        have A2 := am Q_A2
        have A3 := am Q_A3
        have HM := am Q_HM
        refine value_ (w1 := ?_) (v := ?_) (by rfl) rfl ?_ ?_
        rotate_left 2
        ·go_simp
         constructor
         ·rfl
         ·rfl
        refine hK.out _ _ ⟨w'.heap.size, (.pointer (some ⟨w'.heap.size, 0, none⟩)), (by rw [ha.out]; exact putSel_upk 8 hb_ rfl rfl rfl), below_alloc HB.out _, blk_alloc BR.out _, Kd.R_alloc A0.out _, Kd.R_alloc A1.out _, Kd.R_alloc A2.out _, Kd.R_alloc A3.out _, holds_below HM.out (below_alloc (Below.refl _ _) _), fun _ _ => ⟨blk_new _ _, HB.out.size, Kd.R_lt A0.out b0 rfl⟩, fun h0_ => absurd ((hoff 15 (by kernel_rfl)).symm.trans h0_) (by decide), fun _ => rfl⟩
       refine steps_cons ?_ ?_
       ·rintro b a w' ⟨go_, m14_, ha, Q_HB, Q_BR, Q_A0, Q_A1, Q_A2, Q_A3, Q_HM, Q_Z0, Q_BO, Q_X14_⟩ hb_ hon hoff
        refine ⟨_, rfl, fun K hK => ?_⟩
        have e8 : a.tmps[8]? = some (m14_) := by rw [ha]; exact putSel_on (e := (14, 8, m14_)) 8 rfl rfl (hon 14 (by kernel_rfl)) rfl
        rw [Q_X14_ (hon 14 (by kernel_rfl))] at e8
        have e46 : a.tmps[46]? = some (.agg #[.int .i64 u.x, .int .i64 u.y, .int .i64 u.d.t, .int .i64 u.d.n, .int .i64 u.d.e, .int .i64 u.d.s, .int .i64 u.d.w, .int .i64 u.d.b]) := by rw [ha]; exact putSel_on (e := (12, 46, .agg #[.int .i64 u.x, .int .i64 u.y, .int .i64 u.d.t, .int .i64 u.d.n, .int .i64 u.d.e, .int .i64 u.d.s, .int .i64 u.d.w, .int .i64 u.d.b])) 6 rfl rfl (hon 12 (by kernel_rfl)) rfl
        replace ha := am ha
        have HB := am Q_HB
        have BR := am Q_BR
        have A0 := am Q_A0
        have A1 := am Q_A1
        have A2 := am Q_A2
        have A3 := am Q_A3
        have HM := am Q_HM
        have Z0 := am (Q_Z0 (hon 14 (by kernel_rfl)) hb_)
        have z0 : w'.cell? ⟨go_, 0, none⟩ = some (.int .i64 0) := blk_cell Z0.out.1 0
        have z1 : w'.cell? ⟨go_, 1, none⟩ = some (.int .i64 0) := blk_cell Z0.out.1 1
        have z2 : w'.cell? ⟨go_, 2, none⟩ = some (.int .i64 0) := blk_cell Z0.out.1 2
        have z3 : w'.cell? ⟨go_, 3, none⟩ = some (.int .i64 0) := blk_cell Z0.out.1 3
        have z4 : w'.cell? ⟨go_, 4, none⟩ = some (.int .i64 0) := blk_cell Z0.out.1 4
        have z5 : w'.cell? ⟨go_, 5, none⟩ = some (.int .i64 0) := blk_cell Z0.out.1 5
        have z6 : w'.cell? ⟨go_, 6, none⟩ = some (.int .i64 0) := blk_cell Z0.out.1 6
        have z7 : w'.cell? ⟨go_, 7, none⟩ = some (.int .i64 0) := blk_cell Z0.out.1 7
        have zf0 := blk_frozen Z0.out.1 0
        have zf1 := blk_frozen Z0.out.1 1
        have zf2 := blk_frozen Z0.out.1 2
        have zf3 := blk_frozen Z0.out.1 3
        have zf4 := blk_frozen Z0.out.1 4
        have zf5 := blk_frozen Z0.out.1 5
        have zf6 := blk_frozen Z0.out.1 6
        have zf7 := blk_frozen Z0.out.1 7
        have hz2_ := Z0.out.2
        have hnB_ : Br ≠ go_ := fun e_ => by have h1_ := BR.out; rw [e_, Z0.out.1] at h1_; simp at h1_
        have hnM_ : M ≠ go_ := fun e_ => by have h1_ := HM.out; unfold holds at h1_; rw [e_, Z0.out.1] at h1_; simp at h1_
        refine skip_ (w1 := ?_) (by rfl) rfl ?_ ?_
        rotate_left
        ·go_simp
         rfl
        refine hK.out _ _ ⟨go_, m14_, (by rw [ha.out]; exact putSel_none (v := undef) rfl), (below_set (below_set (below_set (below_set (below_set (below_set (below_set (below_set HB.out hz2_.1) hz2_.1) hz2_.1) hz2_.1) hz2_.1) hz2_.1) hz2_.1) hz2_.1), (blk_far (blk_far (blk_far (blk_far (blk_far (blk_far (blk_far (blk_far BR.out hnB_ _) hnB_ _) hnB_ _) hnB_ _) hnB_ _) hnB_ _) hnB_ _) hnB_ _), Kd.R_mono (Kd.R_far (p := ⟨go_, 7, none⟩) (Kd.R_far (p := ⟨go_, 6, none⟩) (Kd.R_far (p := ⟨go_, 5, none⟩) (Kd.R_far (p := ⟨go_, 4, none⟩) (Kd.R_far (p := ⟨go_, 3, none⟩) (Kd.R_far (p := ⟨go_, 2, none⟩) (Kd.R_far (p := ⟨go_, 1, none⟩) (Kd.R_far (p := ⟨go_, 0, none⟩) (Kd.R_flat (ok' := fun k_ => True ∧ k_ ≠ go_) (fun h_ => h_) A0.out (fun k_ hk_ _ => ⟨trivial, by have h2_ : b0 = k_ := (by simpa [Value.ownBlock] using hk_); omega⟩)) (fun _ hk => hk.2) _) (fun _ hk => hk.2) _) (fun _ hk => hk.2) _) (fun _ hk => hk.2) _) (fun _ hk => hk.2) _) (fun _ hk => hk.2) _) (fun _ hk => hk.2) _) (fun _ hk => hk.2) _) (fun _ _ => trivial), Kd.R_mono (Kd.R_far (p := ⟨go_, 7, none⟩) (Kd.R_far (p := ⟨go_, 6, none⟩) (Kd.R_far (p := ⟨go_, 5, none⟩) (Kd.R_far (p := ⟨go_, 4, none⟩) (Kd.R_far (p := ⟨go_, 3, none⟩) (Kd.R_far (p := ⟨go_, 2, none⟩) (Kd.R_far (p := ⟨go_, 1, none⟩) (Kd.R_far (p := ⟨go_, 0, none⟩) (Kd.R_types A1.out Z0.out.1 (by decide)) (fun _ hk => hk.2) _) (fun _ hk => hk.2) _) (fun _ hk => hk.2) _) (fun _ hk => hk.2) _) (fun _ hk => hk.2) _) (fun _ hk => hk.2) _) (fun _ hk => hk.2) _) (fun _ hk => hk.2) _) (fun _ _ => trivial), Kd.R_mono (Kd.R_far (p := ⟨go_, 7, none⟩) (Kd.R_far (p := ⟨go_, 6, none⟩) (Kd.R_far (p := ⟨go_, 5, none⟩) (Kd.R_far (p := ⟨go_, 4, none⟩) (Kd.R_far (p := ⟨go_, 3, none⟩) (Kd.R_far (p := ⟨go_, 2, none⟩) (Kd.R_far (p := ⟨go_, 1, none⟩) (Kd.R_far (p := ⟨go_, 0, none⟩) (Kd.R_types A2.out Z0.out.1 (by decide)) (fun _ hk => hk.2) _) (fun _ hk => hk.2) _) (fun _ hk => hk.2) _) (fun _ hk => hk.2) _) (fun _ hk => hk.2) _) (fun _ hk => hk.2) _) (fun _ hk => hk.2) _) (fun _ hk => hk.2) _) (fun _ _ => trivial), Kd.R_mono (Kd.R_far (p := ⟨go_, 7, none⟩) (Kd.R_far (p := ⟨go_, 6, none⟩) (Kd.R_far (p := ⟨go_, 5, none⟩) (Kd.R_far (p := ⟨go_, 4, none⟩) (Kd.R_far (p := ⟨go_, 3, none⟩) (Kd.R_far (p := ⟨go_, 2, none⟩) (Kd.R_far (p := ⟨go_, 1, none⟩) (Kd.R_far (p := ⟨go_, 0, none⟩) (Kd.R_types A3.out Z0.out.1 (by decide)) (fun _ hk => hk.2) _) (fun _ hk => hk.2) _) (fun _ hk => hk.2) _) (fun _ hk => hk.2) _) (fun _ hk => hk.2) _) (fun _ hk => hk.2) _) (fun _ hk => hk.2) _) (fun _ hk => hk.2) _) (fun _ _ => trivial), holds_of_block HM.out (((Below.heap_setCell _ _ _ M hnM_).trans ((Below.heap_setCell _ _ _ M hnM_).trans ((Below.heap_setCell _ _ _ M hnM_).trans ((Below.heap_setCell _ _ _ M hnM_).trans ((Below.heap_setCell _ _ _ M hnM_).trans ((Below.heap_setCell _ _ _ M hnM_).trans ((Below.heap_setCell _ _ _ M hnM_).trans ((Below.heap_setCell _ _ _ M hnM_).trans rfl))))))))), fun _ h1_ => absurd ((up_self b 15).symm.trans h1_) (by decide), fun _ => ⟨(blk_put (cs := #[.int .i64 u.x, .int .i64 u.y, .int .i64 u.d.t, .int .i64 u.d.n, .int .i64 u.d.e, .int .i64 u.d.s, .int .i64 u.d.w, .int .i64 0]) (blk_put (cs := #[.int .i64 u.x, .int .i64 u.y, .int .i64 u.d.t, .int .i64 u.d.n, .int .i64 u.d.e, .int .i64 u.d.s, .int .i64 0, .int .i64 0]) (blk_put (cs := #[.int .i64 u.x, .int .i64 u.y, .int .i64 u.d.t, .int .i64 u.d.n, .int .i64 u.d.e, .int .i64 0, .int .i64 0, .int .i64 0]) (blk_put (cs := #[.int .i64 u.x, .int .i64 u.y, .int .i64 u.d.t, .int .i64 u.d.n, .int .i64 0, .int .i64 0, .int .i64 0, .int .i64 0]) (blk_put (cs := #[.int .i64 u.x, .int .i64 u.y, .int .i64 u.d.t, .int .i64 0, .int .i64 0, .int .i64 0, .int .i64 0, .int .i64 0]) (blk_put (cs := #[.int .i64 u.x, .int .i64 u.y, .int .i64 0, .int .i64 0, .int .i64 0, .int .i64 0, .int .i64 0, .int .i64 0]) (blk_put (cs := #[.int .i64 u.x, .int .i64 0, .int .i64 0, .int .i64 0, .int .i64 0, .int .i64 0, .int .i64 0, .int .i64 0]) (blk_put (cs := #[.int .i64 0, .int .i64 0, .int .i64 0, .int .i64 0, .int .i64 0, .int .i64 0, .int .i64 0, .int .i64 0]) Z0.out.1 0 _ rfl) 1 _ rfl) 2 _ rfl) 3 _ rfl) 4 _ rfl) 5 _ rfl) 6 _ rfl) 7 _ rfl), hz2_⟩, Q_X14_⟩
       refine steps_cons ?_ ?_
       ·rintro b a w' ⟨go_, m14_, ha, Q_HB, Q_BR, Q_A0, Q_A1, Q_A2, Q_A3, Q_HM, Q_Z0, Q_BO, Q_X14_⟩ hb_ hon hoff
        refine ⟨_, rfl, fun K hK => ?_⟩
        have e47 : a.tmps[47]? = some (.bool cn) := by rw [ha]; exact putSel_on (e := (13, 47, .bool cn)) 7 rfl rfl (hon 13 (by kernel_rfl)) rfl
        replace ha := am ha
        have HB := am Q_HB
        have BR := am Q_BR
        have A0 := am Q_A0
        have A1 := am Q_A1
        have A2 := am Q_A2
        have A3 := am Q_A3
        have HM := am Q_HM
        have BO := am (Q_BO (hon 15 (by kernel_rfl)))
        refine value_ (w1 := w') (v := .bool cn) (by rfl) rfl ?_ ?_
        ·go_simp
         (try simp only [i64_w])
         try rfl
        refine hK.out _ _ ⟨go_, m14_, (by rw [ha.out]; exact putSel_upk 9 hb_ rfl rfl rfl), Q_HB, Q_BR, Q_A0, Q_A1, Q_A2, Q_A3, Q_HM, fun _ h1_ => absurd ((hon 15 (by kernel_rfl)).symm.trans h1_) (by decide), Q_BO, Q_X14_⟩
       exact steps_nil
      ·rintro b a w' hall ⟨go_, m14_, ha, Q_HB, Q_BR, Q_A0, Q_A1, Q_A2, Q_A3, Q_HM, Q_Z0, Q_BO, Q_X14_⟩
       clear A0 A1 A2 A3 BR HB HM
       have hb4_ := hall 4 (by kernel_rfl)
       have hb6_ := hall 6 (by kernel_rfl)
       have hb7_ := hall 7 (by kernel_rfl)
       have hb9_ := hall 9 (by kernel_rfl)
       have hb10_ := hall 10 (by kernel_rfl)
       have hb11_ := hall 11 (by kernel_rfl)
       have hb12_ := hall 12 (by kernel_rfl)
       have hb13_ := hall 13 (by kernel_rfl)
       have hb14_ := hall 14 (by kernel_rfl)
       have hb15_ := hall 15 (by kernel_rfl)
       have hb16_ := hall 16 (by kernel_rfl)
       subst ha
       obtain rfl := Q_X14_ hb14_
       simp only [putSel, hb4_, hb6_, hb7_, hb9_, hb10_, hb11_, hb12_, hb13_, hb14_, hb15_, hb16_, if_true, Act.put, List.setIfInBounds_toArray, List.set_cons_zero, List.set_cons_succ]
       have HB := am Q_HB
       clear Q_HB
       have BR := am Q_BR
       clear Q_BR
       have A0 := am Q_A0
       clear Q_A0
       have A1 := am Q_A1
       clear Q_A1
       have A2 := am Q_A2
       clear Q_A2
       have A3 := am Q_A3
       clear Q_A3
       have HM := am Q_HM
       clear Q_HM
       clear Q_Z0
       have BO := am (Q_BO hb15_)
       clear Q_BO
       clear hall hb4_ hb6_ hb7_ hb9_ hb10_ hb11_ hb12_ hb13_ hb14_ hb15_ hb16_
       obtain ⟨ixv, hix⟩ : ∃ ixv, ixv = ((Maps.place u 0 ks).map valN).getD (.int .i64 0) := ⟨_, rfl⟩
       obtain ⟨mt, hmt⟩ : ∃ mt, mt = (Maps.place u 0 ks).isSome := ⟨_, rfl⟩
       have HIX := hid hix
       have HMT := hid hmt
       clear hix hmt
       go_upto_region 9 with fail
       refine start_ (n := 11) (S := fun w' => True) (ds := []) #[ff, ff, ff, ff, ff, ff, ff, ff, ff, ff, ff] (by kernel_rfl) rfl rfl trivial (fun hHeld => ?_)
       refine with_tabW rch.tab9 rch.bits9 (fun HT_ HW_ => ?_)
       have n_HB := hid (below_drew HB.out)
       have n_BR := hid (blk_drew BR.out)
       have n_A0 := hid (Kd.R_drew A0.out)
       have n_A1 := hid (Kd.R_drew A1.out)
       have n_A2 := hid (Kd.R_drew A2.out)
       have n_A3 := hid (Kd.R_drew A3.out)
       have n_HM := hid (holds_below HM.out (below_drew (Below.refl _ _)))
       have n_BO := hid (And.intro (blk_drew BO.out.1) BO.out.2)
       clear HB BR A0 A1 A2 A3 HM BO
       have HB := n_HB
       have BR := n_BR
       have A0 := n_A0
       have A1 := n_A1
       have A2 := n_A2
       have A3 := n_A3
       have HM := n_HM
       have BO := n_BO
       clear n_HB n_BR n_A0 n_A1 n_A2 n_A3 n_HM n_BO
       generalize World.drew _ = w9 at HB BR A0 A1 A2 A3 HM BO hHeld ⊢
       refine pure_ (i := 0) (N := some 49) (v := ?_) (a' := ?_) #[tt, ff, ff, ff, ff, ff, ff, ff, ff, ff, ff] rfl rfl (any_of HT_.out (by kernel_rfl)) (fun _ _ _ h => h) (Or.inl ⟨by rfl, ?_⟩) ?_ ?_
       rotate_left
       ·intro w'
        go_simp
        with_reducible rfl
       rotate_left
       ·simp only [Act.put, List.setIfInBounds_toArray, List.set_cons_zero, List.set_cons_succ, i64_w, i32_w]
        rfl
       refine pure_ (i := 1) (N := some 50) (v := ?_) (a' := ?_) #[tt, tt, ff, ff, ff, ff, ff, ff, ff, ff, ff] rfl rfl (any_of HT_.out (by kernel_rfl)) (fun _ _ _ h => h) (Or.inl ⟨by rfl, ?_⟩) ?_ ?_
       rotate_left
       ·intro w'
        go_simp
        with_reducible rfl
       rotate_left
       ·simp only [Act.put, List.setIfInBounds_toArray, List.set_cons_zero, List.set_cons_succ, i64_w, i32_w]
        rfl
       refine pure_ (i := 2) (N := some 51) (v := ?_) (a' := ?_) #[tt, tt, tt, ff, ff, ff, ff, ff, ff, ff, ff] rfl rfl (any_of HT_.out (by kernel_rfl)) (fun _ _ _ h => h) (Or.inl ⟨by rfl, ?_⟩) ?_ ?_
       rotate_left
       ·intro w'
        go_simp
        with_reducible rfl
       rotate_left
       ·simp only [Act.put, List.setIfInBounds_toArray, List.set_cons_zero, List.set_cons_succ, i64_w, i32_w]
        rfl
       refine inv_at [3, 4, 5, 6, 7, 8, 9, 10] (fun a0_ b a w' => a = putSel a0_ b [(3, 52, .map (some M)), (4, 53, .agg #[.int .i64 u.x, .int .i64 u.y, .int .i64 u.d.t, .int .i64 u.d.n, .int .i64 u.d.e, .int .i64 u.d.s, .int .i64 u.d.w, .int .i64 u.d.b]), (5, 54, .tuple #[ixv, .bool mt]), (6, 48, .tuple #[ixv, .bool mt]), (7, 55, ixv), (8, 56, .bool mt), (9, 10, ixv), (10, 11, .bool mt)] ∧ (Below w.heap.size w w') ∧ (w'.heap[Br]? = some (.cells #[.slice (some ⟨b0, 0, none⟩) n c0, .slice (some ⟨b1, 0, none⟩) n c1, .slice (some ⟨b2, 0, none⟩) n c2, .slice (some ⟨b3, 0, none⟩) n c3, .map (some M)] 65 (0, 0))) ∧ (Kd.R kSt 30 w' w.heap.size (fun _ => True) (.slice (some ⟨b0, 0, none⟩) n c0) xs0) ∧ (Kd.R (Kd.int .i64) 3 w' w.heap.size (fun _ => True) (.slice (some ⟨b1, 0, none⟩) n c1) xs1) ∧ (Kd.R (Kd.int .u8) 5 w' w.heap.size (fun _ => True) (.slice (some ⟨b2, 0, none⟩) n c2) xs2) ∧ (Kd.R (Kd.int .i64) 3 w' w.heap.size (fun _ => True) (.slice (some ⟨b3, 0, none⟩) n c3) xs3) ∧ (holds w' encSt valN M ks) ∧ (w'.heap[go_]? = some (.cells (st8 u) 30 (0, 0)) ∧ w.heap.size ≤ go_ ∧ b0 < go_)) HT_.out HW_.out (by kernel_rfl) (by kernel_rfl) ?_ ?_ ?_
       ·exact ⟨by simp only [putSel, Bool.false_eq_true, if_false], HB.out, BR.out, A0.out, A1.out, A2.out, A3.out, HM.out, BO.out⟩
       ·skip
        clear A0 A1 A2 A3 BO BR HB HM
        refine steps_cons ?_ ?_
        ·rintro b a w' ⟨ha, Q_HB, Q_BR, Q_A0, Q_A1, Q_A2, Q_A3, Q_HM, Q_BO⟩ hb_ hon hoff
         refine ⟨_, rfl, fun K hK => ?_⟩
         have e51 : a.tmps[51]? = some (.pointer (some ⟨Br, 4, none⟩)) := by rw [ha]; exact (putSel_off rfl).trans rfl
         replace ha := am ha
         have HB := am Q_HB
         have BR := am Q_BR
         have A0 := am Q_A0
         have A1 := am Q_A1
         have A2 := am Q_A2
         have A3 := am Q_A3
         have HM := am Q_HM
         have BO := am Q_BO
         have hv_ : w'.cell? ⟨Br, 4, none⟩ = some (.map (some M)) := blk_cell BR.out 4
         refine value_ (w1 := w') (v := .map (some M)) (by rfl) rfl ?_ ?_
         ·go_simp
          (try simp only [i64_w])
          try rfl
         refine hK.out _ _ ⟨(by rw [ha.out]; exact putSel_upk 0 hb_ rfl rfl rfl), Q_HB, Q_BR, Q_A0, Q_A1, Q_A2, Q_A3, Q_HM, Q_BO⟩
        refine steps_cons ?_ ?_
        ·rintro b a w' ⟨ha, Q_HB, Q_BR, Q_A0, Q_A1, Q_A2, Q_A3, Q_HM, Q_BO⟩ hb_ hon hoff
         refine ⟨_, rfl, fun K hK => ?_⟩
         have e8 : a.tmps[8]? = some (.pointer (some ⟨go_, 0, none⟩)) := by rw [ha]; exact (putSel_off rfl).trans rfl
         replace ha := am ha
         have HB := am Q_HB
         have BR := am Q_BR
         have A0 := am Q_A0
         have A1 := am Q_A1
         have A2 := am Q_A2
         have A3 := am Q_A3
         have HM := am Q_HM
         have BO := am Q_BO
         have o0 : w'.cell? ⟨go_, 0, none⟩ = some (.int .i64 u.x) := blk_cell BO.out.1 0
         have o1 : w'.cell? ⟨go_, 1, none⟩ = some (.int .i64 u.y) := blk_cell BO.out.1 1
         have o2 : w'.cell? ⟨go_, 2, none⟩ = some (.int .i64 u.d.t) := blk_cell BO.out.1 2
         have o3 : w'.cell? ⟨go_, 3, none⟩ = some (.int .i64 u.d.n) := blk_cell BO.out.1 3
         have o4 : w'.cell? ⟨go_, 4, none⟩ = some (.int .i64 u.d.e) := blk_cell BO.out.1 4
         have o5 : w'.cell? ⟨go_, 5, none⟩ = some (.int .i64 u.d.s) := blk_cell BO.out.1 5
         have o6 : w'.cell? ⟨go_, 6, none⟩ = some (.int .i64 u.d.w) := blk_cell BO.out.1 6
         have o7 : w'.cell? ⟨go_, 7, none⟩ = some (.int .i64 u.d.b) := blk_cell BO.out.1 7
         refine value_ (w1 := w') (v := .agg #[.int .i64 u.x, .int .i64 u.y, .int .i64 u.d.t, .int .i64 u.d.n, .int .i64 u.d.e, .int .i64 u.d.s, .int .i64 u.d.w, .int .i64 u.d.b]) (by rfl) rfl ?_ ?_
         ·go_simp
          (try simp only [i64_w])
          try rfl
         refine hK.out _ _ ⟨(by rw [ha.out]; exact putSel_upk 1 hb_ rfl rfl rfl), Q_HB, Q_BR, Q_A0, Q_A1, Q_A2, Q_A3, Q_HM, Q_BO⟩
        refine steps_cons ?_ ?_
        ·rintro b a w' ⟨ha, Q_HB, Q_BR, Q_A0, Q_A1, Q_A2, Q_A3, Q_HM, Q_BO⟩ hb_ hon hoff
         refine ⟨_, rfl, fun K hK => ?_⟩
         have e52 : a.tmps[52]? = some (.map (some M)) := by rw [ha]; exact putSel_on (e := (3, 52, .map (some M))) 0 rfl rfl (hon 3 (by kernel_rfl)) rfl
         have e53 : a.tmps[53]? = some (.agg #[.int .i64 u.x, .int .i64 u.y, .int .i64 u.d.t, .int .i64 u.d.n, .int .i64 u.d.e, .int .i64 u.d.s, .int .i64 u.d.w, .int .i64 u.d.b]) := by rw [ha]; exact putSel_on (e := (4, 53, .agg #[.int .i64 u.x, .int .i64 u.y, .int .i64 u.d.t, .int .i64 u.d.n, .int .i64 u.d.e, .int .i64 u.d.s, .int .i64 u.d.w, .int .i64 u.d.b])) 1 rfl rfl (hon 4 (by kernel_rfl)) rfl
         replace ha := am ha
         have HB := am Q_HB
         have BR := am Q_BR
         have A0 := am Q_A0
         have A1 := am Q_A1
         have A2 := am Q_A2
         have A3 := am Q_A3
         have HM := am Q_HM
         have BO := am Q_BO
         have hlk_ := look_run (val := valN) fits Tryd.underlying63 (zeroI w') HM.out u true
         rw [show encSt u = _ from rfl, if_pos rfl, ← HIX.out, ← HMT.out] at hlk_
         refine value_ (w1 := w') (v := .tuple #[ixv, .bool mt]) (by rfl) rfl ?_ ?_
         ·go_simp
          (try simp only [i64_w])
          try rfl
         refine hK.out _ _ ⟨(by rw [ha.out]; exact putSel_upk 2 hb_ rfl rfl rfl), Q_HB, Q_BR, Q_A0, Q_A1, Q_A2, Q_A3, Q_HM, Q_BO⟩
        refine steps_cons ?_ ?_
        ·rintro b a w' ⟨ha, Q_HB, Q_BR, Q_A0, Q_A1, Q_A2, Q_A3, Q_HM, Q_BO⟩ hb_ hon hoff
         refine ⟨_, rfl, fun K hK => ?_⟩
         have e54 : a.tmps[54]? = some (.tuple #[ixv, .bool mt]) := by rw [ha]; exact putSel_on (e := (5, 54, .tuple #[ixv, .bool mt])) 2 rfl rfl (hon 5 (by kernel_rfl)) rfl
         replace ha := am ha
         have HB := am Q_HB
         have BR := am Q_BR
         have A0 := am Q_A0
         have A1 := am Q_A1
         have A2 := am Q_A2
         have A3 := am Q_A3
         have HM := am Q_HM
         have BO := am Q_BO
         refine value_ (w1 := w') (v := .tuple #[ixv, .bool mt]) (by rfl) rfl ?_ ?_
         ·go_simp
          (try simp only [i64_w])
          try rfl
         refine hK.out _ _ ⟨(by rw [ha.out]; exact putSel_upk 3 hb_ rfl rfl rfl), Q_HB, Q_BR, Q_A0, Q_A1, Q_A2, Q_A3, Q_HM, Q_BO⟩
        refine steps_cons ?_ ?_
        ·rintro b a w' ⟨ha, Q_HB, Q_BR, Q_A0, Q_A1, Q_A2, Q_A3, Q_HM, Q_BO⟩ hb_ hon hoff
         refine ⟨_, rfl, fun K hK => ?_⟩
         have e48 : a.tmps[48]? = some (.tuple #[ixv, .bool mt]) := by rw [ha]; exact putSel_on (e := (6, 48, .tuple #[ixv, .bool mt])) 3 rfl rfl (hon 6 (by kernel_rfl)) rfl
         replace ha := am ha
         have HB := am Q_HB
         have BR := am Q_BR
         have A0 := am Q_A0
         have A1 := am Q_A1
         have A2 := am Q_A2
         have A3 := am Q_A3
         have HM := am Q_HM
         have BO := am Q_BO
         refine value_ (w1 := w') (v := ixv) (by rfl) rfl ?_ ?_
         ·go_simp
          (try simp only [i64_w])
          try rfl
         refine hK.out _ _ ⟨(by rw [ha.out]; exact putSel_upk 4 hb_ rfl rfl rfl), Q_HB, Q_BR, Q_A0, Q_A1, Q_A2, Q_A3, Q_HM, Q_BO⟩
        refine steps_cons ?_ ?_
        ·rintro b a w' ⟨ha, Q_HB, Q_BR, Q_A0, Q_A1, Q_A2, Q_A3, Q_HM, Q_BO⟩ hb_ hon hoff
         refine ⟨_, rfl, fun K hK => ?_⟩
         have e48 : a.tmps[48]? = some (.tuple #[ixv, .bool mt]) := by rw [ha]; exact putSel_on (e := (6, 48, .tuple #[ixv, .bool mt])) 3 rfl rfl (hon 6 (by kernel_rfl)) rfl
         replace ha := am ha
         have HB := am Q_HB
         have BR := am Q_BR
         have A0 := am Q_A0
         have A1 := am Q_A1
         have A2 := am Q_A2
         have A3 := am Q_A3
         have HM := am Q_HM
         have BO := am Q_BO
         refine value_ (w1 := w') (v := .bool mt) (by rfl) rfl ?_ ?_
         ·go_simp
          (try simp only [i64_w])
          try rfl
         refine hK.out _ _ ⟨(by rw [ha.out]; exact putSel_upk 5 hb_ rfl rfl rfl), Q_HB, Q_BR, Q_A0, Q_A1, Q_A2, Q_A3, Q_HM, Q_BO⟩
        refine steps_cons ?_ ?_
        ·rintro b a w' ⟨ha, Q_HB, Q_BR, Q_A0, Q_A1, Q_A2, Q_A3, Q_HM, Q_BO⟩ hb_ hon hoff
         refine ⟨_, rfl, fun K hK => ?_⟩
         have e55 : a.tmps[55]? = some (ixv) := by rw [ha]; exact putSel_on (e := (7, 55, ixv)) 4 rfl rfl (hon 7 (by kernel_rfl)) rfl
         replace ha := am ha
         have HB := am Q_HB
         have BR := am Q_BR
         have A0 := am Q_A0
         have A1 := am Q_A1
         have A2 := am Q_A2
         have A3 := am Q_A3
         have HM := am Q_HM
         have BO := am Q_BO
         refine value_ (w1 := w') (v := ixv) (by rfl) rfl ?_ ?_
         ·go_simp
          (try simp only [i64_w])
          try rfl
         refine hK.out _ _ ⟨(by rw [ha.out]; exact putSel_upk 6 hb_ rfl rfl rfl), Q_HB, Q_BR, Q_A0, Q_A1, Q_A2, Q_A3, Q_HM, Q_BO⟩
        refine steps_cons ?_ ?_
        ·rintro b a w' ⟨ha, Q_HB, Q_BR, Q_A0, Q_A1, Q_A2, Q_A3, Q_HM, Q_BO⟩ hb_ hon hoff
         refine ⟨_, rfl, fun K hK => ?_⟩
         have e56 : a.tmps[56]? = some (.bool mt) := by rw [ha]; exact putSel_on (e := (8, 56, .bool mt)) 5 rfl rfl (hon 8 (by kernel_rfl)) rfl
         replace ha := am ha
         have HB := am Q_HB
         have BR := am Q_BR
         have A0 := am Q_A0
         have A1 := am Q_A1
         have A2 := am Q_A2
         have A3 := am Q_A3
         have HM := am Q_HM
         have BO := am Q_BO
         refine value_ (w1 := w') (v := .bool mt) (by rfl) rfl ?_ ?_
         ·go_simp
          (try simp only [i64_w])
          try rfl
         refine hK.out _ _ ⟨(by rw [ha.out]; exact putSel_upk 7 hb_ rfl rfl rfl), Q_HB, Q_BR, Q_A0, Q_A1, Q_A2, Q_A3, Q_HM, Q_BO⟩
        exact steps_nil
       ·rintro b a w' hall ⟨ha, Q_HB, Q_BR, Q_A0, Q_A1, Q_A2, Q_A3, Q_HM, Q_BO⟩
        clear A0 A1 A2 A3 BO BR HB HM
        have hb3_ := hall 3 (by kernel_rfl)
        have hb4_ := hall 4 (by kernel_rfl)
        have hb5_ := hall 5 (by kernel_rfl)
        have hb6_ := hall 6 (by kernel_rfl)
        have hb7_ := hall 7 (by kernel_rfl)
        have hb8_ := hall 8 (by kernel_rfl)
        have hb9_ := hall 9 (by kernel_rfl)
        have hb10_ := hall 10 (by kernel_rfl)
        subst ha
        simp only [putSel, hb3_, hb4_, hb5_, hb6_, hb7_, hb8_, hb9_, hb10_, if_true, Act.put, List.setIfInBounds_toArray, List.set_cons_zero, List.set_cons_succ]
        have HB := am Q_HB
        clear Q_HB
        have BR := am Q_BR
        clear Q_BR
        have A0 := am Q_A0
        clear Q_A0
        have A1 := am Q_A1
        clear Q_A1
        have A2 := am Q_A2
        clear Q_A2
        have A3 := am Q_A3
        clear Q_A3
        have HM := am Q_HM
        clear Q_HM
        have BO := am Q_BO
        clear Q_BO
        clear hall hb3_ hb4_ hb5_ hb6_ hb7_ hb8_ hb9_ hb10_
        cases cn with
        | false =>
         go_wp2_with fail
         go_roundw
         case rel => exact ⟨i + 1, by go_num, by omega, _, _, _, _, by
          rw [Bfs.some_, ← HL1.out, one_cannot HX1.out (by rw [← HT.out, ← HCN.out])]
          exact mkRS HXS.out HB.out BR.out A0.out A1.out A2.out A3.out HM.out HNE.out HBG.out⟩
         case measure => simp [intOf]; omega
        | true =>
         cases mt with
         | true =>
          have HIN := hid (show u ∈ ks from of_decide_eq_true (by rw [← place_some (j := 0), ← HMT.out]))
          go_wp2_with fail
          go_roundw
          case rel => exact ⟨i + 1, by go_num, by omega, _, _, _, _, by
           rw [Bfs.some_, ← HL1.out, one_has HX1.out (by rw [← HT.out, ← HCN.out]) (by rw [← HT.out, ← HU.out, ← HXS.out.2.2.2.2]; exact HIN.out)]
           exact mkRS HXS.out HB.out BR.out A0.out A1.out A2.out A3.out HM.out HNE.out HBG.out⟩
          case measure => simp [intOf]; omega
         | false =>
          have HKL := hid (show ks.length = n by rw [HXS.out.2.2.2.2, List.length_map, HN.out])
          have hno : Maps.place u 0 ks = none := by
           have h := HMT.out
           cases hp : Maps.place u 0 ks with
           | none => rfl
           | some j => rw [hp] at h; cases h
          have HNO := hid hno
          clear hno
          go_wp2_with fail
          go_upto_region 11 with fail
          refine start_ (n := 11) (S := fun w' => True) (ds := []) #[ff, ff, ff, ff, ff, ff, ff, ff, ff, ff, ff] (by kernel_rfl) rfl rfl trivial (fun hHeld => ?_)
          refine with_tabW rch.tab11 rch.bits11 (fun HT_ HW_ => ?_)
          have n_HB := hid (below_drew HB.out)
          have n_BR := hid (blk_drew BR.out)
          have n_A0 := hid (Kd.R_drew A0.out)
          have n_A1 := hid (Kd.R_drew A1.out)
          have n_A2 := hid (Kd.R_drew A2.out)
          have n_A3 := hid (Kd.R_drew A3.out)
          have n_HM := hid (holds_below HM.out (below_drew (Below.refl _ _)))
          have n_BO := hid (And.intro (blk_drew BO.out.1) BO.out.2)
          clear HB BR A0 A1 A2 A3 HM BO
          have HB := n_HB
          have BR := n_BR
          have A0 := n_A0
          have A1 := n_A1
          have A2 := n_A2
          have A3 := n_A3
          have HM := n_HM
          have BO := n_BO
          clear n_HB n_BR n_A0 n_A1 n_A2 n_A3 n_HM n_BO
          generalize World.drew _ = w10 at HB BR A0 A1 A2 A3 HM BO hHeld ⊢
          refine pure_ (i := 0) (N := some 62) (v := ?_) (a' := ?_) #[tt, ff, ff, ff, ff, ff, ff, ff, ff, ff, ff] rfl rfl (any_of HT_.out (by kernel_rfl)) (fun _ _ _ h => h) (Or.inl ⟨by rfl, ?_⟩) ?_ ?_
          rotate_left
          ·intro w'
           go_simp
           with_reducible rfl
          rotate_left
          ·simp only [Act.put, List.setIfInBounds_toArray, List.set_cons_zero, List.set_cons_succ, i64_w, i32_w]
           rfl
          refine pure_ (i := 1) (N := some 63) (v := ?_) (a' := ?_) #[tt, tt, ff, ff, ff, ff, ff, ff, ff, ff, ff] rfl rfl (any_of HT_.out (by kernel_rfl)) (fun _ _ _ h => h) (Or.inl ⟨by rfl, ?_⟩) ?_ ?_
          rotate_left
          ·intro w'
           go_simp
           with_reducible rfl
          rotate_left
          ·simp only [Act.put, List.setIfInBounds_toArray, List.set_cons_zero, List.set_cons_succ, i64_w, i32_w]
           rfl
          refine pure_ (i := 2) (N := some 64) (v := ?_) (a' := ?_) #[tt, tt, tt, ff, ff, ff, ff, ff, ff, ff, ff] rfl rfl (any_of HT_.out (by kernel_rfl)) (fun _ _ _ h => h) (Or.inl ⟨by rfl, ?_⟩) ?_ ?_
          rotate_left
          ·intro w'
           go_simp
           with_reducible rfl
          rotate_left
          ·simp only [Act.put, List.setIfInBounds_toArray, List.set_cons_zero, List.set_cons_succ, i64_w, i32_w]
           rfl
          refine pure_ (i := 5) (N := some 67) (v := ?_) (a' := ?_) #[tt, tt, tt, ff, ff, tt, ff, ff, ff, ff, ff] rfl rfl (any_of HT_.out (by kernel_rfl)) (fun _ _ _ h => h) (Or.inl ⟨by rfl, ?_⟩) ?_ ?_
          rotate_left
          ·intro w'
           go_simp
           with_reducible rfl
          rotate_left
          ·simp only [Act.put, List.setIfInBounds_toArray, List.set_cons_zero, List.set_cons_succ, i64_w, i32_w]
           rfl
          refine pure_ (i := 6) (N := some 68) (v := ?_) (a' := ?_) #[tt, tt, tt, ff, ff, tt, tt, ff, ff, ff, ff] rfl rfl (any_of HT_.out (by kernel_rfl)) (fun _ _ _ h => h) (Or.inl ⟨by rfl, ?_⟩) ?_ ?_
          rotate_left
          ·intro w'
           go_simp
           with_reducible rfl
          rotate_left
          ·simp only [Act.put, List.setIfInBounds_toArray, List.set_cons_zero, List.set_cons_succ, i64_w, i32_w]
           rfl
          refine pure_ (i := 7) (N := some 69) (v := ?_) (a' := ?_) #[tt, tt, tt, ff, ff, tt, tt, tt, ff, ff, ff] rfl rfl (any_of HT_.out (by kernel_rfl)) (fun _ _ _ h => h) (Or.inl ⟨by rfl, ?_⟩) ?_ ?_
          rotate_left
          ·intro w'
           go_simp
           with_reducible rfl
          rotate_left
          ·simp only [Act.put, List.setIfInBounds_toArray, List.set_cons_zero, List.set_cons_succ, i64_w, i32_w]
           rfl
          refine inv_at [3, 4, 8, 9, 10] (fun a0_ b a w' => a = putSel a0_ b [(3, 65, .map (some M)), (4, 66, .agg #[.int .i64 u.x, .int .i64 u.y, .int .i64 u.d.t, .int .i64 u.d.n, .int .i64 u.d.e, .int .i64 u.d.s, .int .i64 u.d.w, .int .i64 u.d.b]), (8, 70, .slice (some ⟨b0, 0, none⟩) n c0), (9, 71, .int .i64 (n : Int))] ∧ (Below w.heap.size w w') ∧ (w'.heap[Br]? = some (.cells #[.slice (some ⟨b0, 0, none⟩) n c0, .slice (some ⟨b1, 0, none⟩) n c1, .slice (some ⟨b2, 0, none⟩) n c2, .slice (some ⟨b3, 0, none⟩) n c3, .map (some M)] 65 (0, 0))) ∧ (Kd.R kSt 30 w' w.heap.size (fun _ => True) (.slice (some ⟨b0, 0, none⟩) n c0) xs0) ∧ (Kd.R (Kd.int .i64) 3 w' w.heap.size (fun _ => True) (.slice (some ⟨b1, 0, none⟩) n c1) xs1) ∧ (Kd.R (Kd.int .u8) 5 w' w.heap.size (fun _ => True) (.slice (some ⟨b2, 0, none⟩) n c2) xs2) ∧ (Kd.R (Kd.int .i64) 3 w' w.heap.size (fun _ => True) (.slice (some ⟨b3, 0, none⟩) n c3) xs3) ∧ (w'.heap[go_]? = some (.cells (st8 u) 30 (0, 0)) ∧ w.heap.size ≤ go_ ∧ b0 < go_) ∧ (b 10 = false → holds w' encSt valN M ks) ∧ (b 10 = true → holds w' encSt valN M (ks ++ [u]))) HT_.out HW_.out (by kernel_rfl) (by kernel_rfl) ?_ ?_ ?_
          ·exact ⟨by simp only [putSel, Bool.false_eq_true, if_false], HB.out, BR.out, A0.out, A1.out, A2.out, A3.out, BO.out, fun _ => HM.out, fun h_ => absurd h_ (by decide)⟩
          ·skip
           clear A0 A1 A2 A3 BO BR HB HM
           refine steps_cons ?_ ?_
           ·rintro b a w' ⟨ha, Q_HB, Q_BR, Q_A0, Q_A1, Q_A2, Q_A3, Q_BO, Q_HM, Q_HP⟩ hb_ hon hoff
            refine ⟨_, rfl, fun K hK => ?_⟩
            have e64 : a.tmps[64]? = some (.pointer (some ⟨Br, 4, none⟩)) := by rw [ha]; exact (putSel_off rfl).trans rfl
            replace ha := am ha
            have HB := am Q_HB
            have BR := am Q_BR
            have A0 := am Q_A0
            have A1 := am Q_A1
            have A2 := am Q_A2
            have A3 := am Q_A3
            have BO := am Q_BO
            have HM := am (Q_HM (hoff 10 (by kernel_rfl)))
            have hv_ : w'.cell? ⟨Br, 4, none⟩ = some (.map (some M)) := blk_cell BR.out 4
            refine value_ (w1 := w') (v := .map (some M)) (by rfl) rfl ?_ ?_
            ·go_simp
             (try simp only [i64_w])
             try rfl
            refine hK.out _ _ ⟨(by rw [ha.out]; exact putSel_upk 0 hb_ rfl rfl rfl), Q_HB, Q_BR, Q_A0, Q_A1, Q_A2, Q_A3, Q_BO, Q_HM, fun h0_ => absurd ((hoff 10 (by kernel_rfl)).symm.trans h0_) (by decide)⟩
           refine steps_cons ?_ ?_
           ·rintro b a w' ⟨ha, Q_HB, Q_BR, Q_A0, Q_A1, Q_A2, Q_A3, Q_BO, Q_HM, Q_HP⟩ hb_ hon hoff
            refine ⟨_, rfl, fun K hK => ?_⟩
            have e8 : a.tmps[8]? = some (.pointer (some ⟨go_, 0, none⟩)) := by rw [ha]; exact (putSel_off rfl).trans rfl
            replace ha := am ha
            have HB := am Q_HB
            have BR := am Q_BR
            have A0 := am Q_A0
            have A1 := am Q_A1
            have A2 := am Q_A2
            have A3 := am Q_A3
            have BO := am Q_BO
            have HM := am (Q_HM (hoff 10 (by kernel_rfl)))
            have o0 : w'.cell? ⟨go_, 0, none⟩ = some (.int .i64 u.x) := blk_cell BO.out.1 0
            have o1 : w'.cell? ⟨go_, 1, none⟩ = some (.int .i64 u.y) := blk_cell BO.out.1 1
            have o2 : w'.cell? ⟨go_, 2, none⟩ = some (.int .i64 u.d.t) := blk_cell BO.out.1 2
            have o3 : w'.cell? ⟨go_, 3, none⟩ = some (.int .i64 u.d.n) := blk_cell BO.out.1 3
            have o4 : w'.cell? ⟨go_, 4, none⟩ = some (.int .i64 u.d.e) := blk_cell BO.out.1 4
            have o5 : w'.cell? ⟨go_, 5, none⟩ = some (.int .i64 u.d.s) := blk_cell BO.out.1 5
            have o6 : w'.cell? ⟨go_, 6, none⟩ = some (.int .i64 u.d.w) := blk_cell BO.out.1 6
            have o7 : w'.cell? ⟨go_, 7, none⟩ = some (.int .i64 u.d.b) := blk_cell BO.out.1 7
            refine value_ (w1 := w') (v := .agg #[.int .i64 u.x, .int .i64 u.y, .int .i64 u.d.t, .int .i64 u.d.n, .int .i64 u.d.e, .int .i64 u.d.s, .int .i64 u.d.w, .int .i64 u.d.b]) (by rfl) rfl ?_ ?_
            ·go_simp
             (try simp only [i64_w])
             try rfl
            refine hK.out _ _ ⟨(by rw [ha.out]; exact putSel_upk 1 hb_ rfl rfl rfl), Q_HB, Q_BR, Q_A0, Q_A1, Q_A2, Q_A3, Q_BO, Q_HM, fun h0_ => absurd ((hoff 10 (by kernel_rfl)).symm.trans h0_) (by decide)⟩
           refine steps_cons ?_ ?_
           ·rintro b a w' ⟨ha, Q_HB, Q_BR, Q_A0, Q_A1, Q_A2, Q_A3, Q_BO, Q_HM, Q_HP⟩ hb_ hon hoff
            refine ⟨_, rfl, fun K hK => ?_⟩
            have e69 : a.tmps[69]? = some (.pointer (some ⟨Br, 0, none⟩)) := by rw [ha]; exact (putSel_off rfl).trans rfl
            replace ha := am ha
            have HB := am Q_HB
            have BR := am Q_BR
            have A0 := am Q_A0
            have A1 := am Q_A1
            have A2 := am Q_A2
            have A3 := am Q_A3
            have BO := am Q_BO
            have HM := am (Q_HM (hoff 10 (by kernel_rfl)))
            have hv_ : w'.cell? ⟨Br, 0, none⟩ = some (.slice (some ⟨b0, 0, none⟩) n c0) := blk_cell BR.out 0
            refine value_ (w1 := w') (v := .slice (some ⟨b0, 0, none⟩) n c0) (by rfl) rfl ?_ ?_
            ·go_simp
             (try simp only [i64_w])
             try rfl
            refine hK.out _ _ ⟨(by rw [ha.out]; exact putSel_upk 2 hb_ rfl rfl rfl), Q_HB, Q_BR, Q_A0, Q_A1, Q_A2, Q_A3, Q_BO, Q_HM, fun h0_ => absurd ((hoff 10 (by kernel_rfl)).symm.trans h0_) (by decide)⟩
           refine steps_cons ?_ ?_
           ·rintro b a w' ⟨ha, Q_HB, Q_BR, Q_A0, Q_A1, Q_A2, Q_A3, Q_BO, Q_HM, Q_HP⟩ hb_ hon hoff
            refine ⟨_, rfl, fun K hK => ?_⟩
            have e70 : a.tmps[70]? = some (.slice (some ⟨b0, 0, none⟩) n c0) := by rw [ha]; exact putSel_on (e := (8, 70, .slice (some ⟨b0, 0, none⟩) n c0)) 2 rfl rfl (hon 8 (by kernel_rfl)) rfl
            replace ha := am ha
            have HB := am Q_HB
            have BR := am Q_BR
            have A0 := am Q_A0
            have A1 := am Q_A1
            have A2 := am Q_A2
            have A3 := am Q_A3
            have BO := am Q_BO
            have HM := am (Q_HM (hoff 10 (by kernel_rfl)))
            refine value_ (w1 := w') (v := .int .i64 (n : Int)) (by rfl) rfl ?_ ?_
            ·go_simp
             (try simp only [i64_w])
             try rfl
            refine hK.out _ _ ⟨(by rw [ha.out]; exact putSel_upk 3 hb_ rfl rfl rfl), Q_HB, Q_BR, Q_A0, Q_A1, Q_A2, Q_A3, Q_BO, Q_HM, fun h0_ => absurd ((hoff 10 (by kernel_rfl)).symm.trans h0_) (by decide)⟩
           refine steps_cons ?_ ?_
           ·rintro b a w' ⟨ha, Q_HB, Q_BR, Q_A0, Q_A1, Q_A2, Q_A3, Q_BO, Q_HM, Q_HP⟩ hb_ hon hoff
            refine ⟨_, rfl, fun K hK => ?_⟩
            have e65 : a.tmps[65]? = some (.map (some M)) := by rw [ha]; exact putSel_on (e := (3, 65, .map (some M))) 0 rfl rfl (hon 3 (by kernel_rfl)) rfl
            have e66 : a.tmps[66]? = some (.agg #[.int .i64 u.x, .int .i64 u.y, .int .i64 u.d.t, .int .i64 u.d.n, .int .i64 u.d.e, .int .i64 u.d.s, .int .i64 u.d.w, .int .i64 u.d.b]) := by rw [ha]; exact putSel_on (e := (4, 66, .agg #[.int .i64 u.x, .int .i64 u.y, .int .i64 u.d.t, .int .i64 u.d.n, .int .i64 u.d.e, .int .i64 u.d.s, .int .i64 u.d.w, .int .i64 u.d.b])) 1 rfl rfl (hon 4 (by kernel_rfl)) rfl
            have e71 : a.tmps[71]? = some (.int .i64 (n : Int)) := by rw [ha]; exact putSel_on (e := (9, 71, .int .i64 (n : Int))) 3 rfl rfl (hon 9 (by kernel_rfl)) rfl
            replace ha := am ha
            have HB := am Q_HB
            have BR := am Q_BR
            have A0 := am Q_A0
            have A1 := am Q_A1
            have A2 := am Q_A2
            have A3 := am Q_A3
            have BO := am Q_BO
            have HM := am (Q_HM hb_)
            have hput_ := put_run (val := valN) fits Tryd.underlying63 HM.out u HNO.out
            rw [HKL.out] at hput_
            have hg_ := grown_put HM.out (.map (entries encSt valN 0 (ks ++ [u])).toArray (ks.length + 1))
            have hp_ := holds_put HM.out u
            rw [show (ks ++ [u]).length = ks.length + 1 from by simp] at hp_
            have hmB_ : some Br ≠ some M := fun e_ => by have h1_ := HM.out; unfold holds at h1_; injection e_ with e_; rw [← e_, BR.out] at h1_; simp at h1_
            have hmO_ : some go_ ≠ some M := fun e_ => by have h1_ := HM.out; unfold holds at h1_; injection e_ with e_; rw [← e_, BO.out.1] at h1_; simp at h1_
            refine skip_ (w1 := ?_) (by rfl) rfl ?_ ?_
            rotate_left
            ·go_simp
             rfl
            refine hK.out _ _ ⟨(by rw [ha.out]; exact putSel_none (v := undef) rfl), pw_below_grown HB.out (some M) HB.out.size hg_ (fun k_ e_ => by injection e_ with e_; have h1_ := HBG.out.2; omega), (hg_.block Br (blk_lt BR.out) hmB_).trans BR.out, set_R A0.out HM.out hg_, set_R A1.out HM.out hg_, set_R A2.out HM.out hg_, set_R A3.out HM.out hg_, ⟨(hg_.block go_ (blk_lt BO.out.1) hmO_).trans BO.out.1, BO.out.2⟩, fun h0_ => absurd ((up_self b 10).symm.trans h0_) (by decide), fun _ => hp_⟩
           exact steps_nil
          ·rintro b a w' hall ⟨ha, Q_HB, Q_BR, Q_A0, Q_A1, Q_A2, Q_A3, Q_BO, Q_HM, Q_HP⟩
           clear A0 A1 A2 A3 BO BR HB HM
           have hb3_ := hall 3 (by kernel_rfl)
           have hb4_ := hall 4 (by kernel_rfl)
           have hb8_ := hall 8 (by kernel_rfl)
           have hb9_ := hall 9 (by kernel_rfl)
           have hb10_ := hall 10 (by kernel_rfl)
           subst ha
           simp only [putSel, hb3_, hb4_, hb8_, hb9_, hb10_, if_true, Act.put, List.setIfInBounds_toArray, List.set_cons_zero, List.set_cons_succ]
           have HB := am Q_HB
           clear Q_HB
           have BR := am Q_BR
           clear Q_BR
           have A0 := am Q_A0
           clear Q_A0
           have A1 := am Q_A1
           clear Q_A1
           have A2 := am Q_A2
           clear Q_A2
           have A3 := am Q_A3
           clear Q_A3
           have BO := am Q_BO
           clear Q_BO
           clear Q_HM
           have HP := am (Q_HP hb10_)
           clear Q_HP
           clear hall hb3_ hb4_ hb8_ hb9_ hb10_
           obtain ⟨fk, hfk⟩ : ∃ fk, fk = x.2.length := ⟨_, rfl⟩
           have HFK := hid hfk
           have HF := hid (show xs3[k]? = some (fk : Int) by rw [HXS.out.2.2.2.1, List.getElem?_map, HX1.out, hfk]; rfl)
           have hfs : fk ≤ 1000 := by
            have h1 := word_small HI.out k x HX1.out
            omega
           have HLN := hid (show xs0.length = n ∧ xs1.length = n ∧ xs2.length = n ∧ xs3.length = n by
            refine ⟨?_, ?_, ?_, ?_⟩
            ·rw [HXS.out.1, List.length_map, HN.out]
            ·rw [HXS.out.2.1, List.length_map, HN.out]
            ·rw [HXS.out.2.2.1, List.length_map, HN.out]
            ·rw [HXS.out.2.2.2.1, List.length_map, HN.out])
           clear hfk
           have HM := HP
           clear HP
           go_upto_region 12 with fail
           refine start_ (n := 52) (S := fun w' => True) (ds := []) #[ff, ff, ff, ff, ff, ff, ff, ff, ff, ff, ff, ff, ff, ff, ff, ff, ff, ff, ff, ff, ff, ff, ff, ff, ff, ff, ff, ff, ff, ff, ff, ff, ff, ff, ff, ff, ff, ff, ff, ff, ff, ff, ff, ff, ff, ff, ff, ff, ff, ff, ff, ff] (by kernel_rfl) rfl rfl trivial (fun hHeld => ?_)
           refine with_tabW rch.tab12 rch.bits12 (fun HT_ HW_ => ?_)
           have n_HB := hid (below_drew HB.out)
           have n_BR := hid (blk_drew BR.out)
           have n_A0 := hid (Kd.R_drew A0.out)
           have n_A1 := hid (Kd.R_drew A1.out)
           have n_A2 := hid (Kd.R_drew A2.out)
           have n_A3 := hid (Kd.R_drew A3.out)
           have n_HM := hid (holds_below HM.out (below_drew (Below.refl _ _)))
           have n_BO := hid (And.intro (blk_drew BO.out.1) BO.out.2)
           clear HB BR A0 A1 A2 A3 HM BO
           have HB := n_HB
           have BR := n_BR
           have A0 := n_A0
           have A1 := n_A1
           have A2 := n_A2
           have A3 := n_A3
           have HM := n_HM
           have BO := n_BO
           clear n_HB n_BR n_A0 n_A1 n_A2 n_A3 n_HM n_BO
           generalize World.drew _ = w12 at HB BR A0 A1 A2 A3 HM BO hHeld ⊢
           have SZ := hid (Nat.le_refl w12.heap.size)
           have HWS := hid HB.out.size
           have HBL := hid (And.intro (Kd.R_lt A0.out b0 rfl) (And.intro (Kd.R_lt A1.out b1 rfl) (And.intro (Kd.R_lt A2.out b2 rfl) (Kd.R_lt A3.out b3 rfl))))
           have HBD := hid (apart4 A0.out A1.out A2.out A3.out HNE.out)
           have HRD := hid (apartR A0.out A1.out A2.out A3.out BR.out)
           have HMD := hid (apartM A0.out A1.out A2.out A3.out HM.out)
           have HMB := hid (show M ≠ Br from fun e_ => by have h1_ := HM.out; unfold holds at h1_; rw [e_, BR.out] at h1_; simp at h1_)
           have hix_ := index_dir i hi4
           refine pure_ (i := 0) (N := some 72) (v := ?_) (a' := ?_) #[tt, ff, ff, ff, ff, ff, ff, ff, ff, ff, ff, ff, ff, ff, ff, ff, ff, ff, ff, ff, ff, ff, ff, ff, ff, ff, ff, ff, ff, ff, ff, ff, ff, ff, ff, ff, ff, ff, ff, ff, ff, ff, ff, ff, ff, ff, ff, ff, ff, ff, ff, ff] rfl rfl (any_of HT_.out (by kernel_rfl)) (fun _ _ _ h => h) (Or.inl ⟨by rfl, ?_⟩) ?_ ?_
           rotate_left
           ·intro w'
            go_simp
            with_reducible rfl
           rotate_left
           ·simp only [Act.put, List.setIfInBounds_toArray, List.set_cons_zero, List.set_cons_succ, i64_w, i32_w]
            rfl
           refine pure_ (i := 1) (N := some 73) (v := ?_) (a' := ?_) #[tt, tt, ff, ff, ff, ff, ff, ff, ff, ff, ff, ff, ff, ff, ff, ff, ff, ff, ff, ff, ff, ff, ff, ff, ff, ff, ff, ff, ff, ff, ff, ff, ff, ff, ff, ff, ff, ff, ff, ff, ff, ff, ff, ff, ff, ff, ff, ff, ff, ff, ff, ff] rfl rfl (any_of HT_.out (by kernel_rfl)) (fun _ _ _ h => h) (Or.inl ⟨by rfl, ?_⟩) ?_ ?_
           rotate_left
           ·intro w'
            go_simp
            with_reducible rfl
           rotate_left
           ·simp only [Act.put, List.setIfInBounds_toArray, List.set_cons_zero, List.set_cons_succ, i64_w, i32_w]
            rfl
           refine pure_ (i := 2) (N := some 74) (v := ?_) (a' := ?_) #[tt, tt, tt, ff, ff, ff, ff, ff, ff, ff, ff, ff, ff, ff, ff, ff, ff, ff, ff, ff, ff, ff, ff, ff, ff, ff, ff, ff, ff, ff, ff, ff, ff, ff, ff, ff, ff, ff, ff, ff, ff, ff, ff, ff, ff, ff, ff, ff, ff, ff, ff, ff] rfl rfl (any_of HT_.out (by kernel_rfl)) (fun _ _ _ h => h) (Or.inl ⟨by rfl, ?_⟩) ?_ ?_
           rotate_left
           ·intro w'
            go_simp
            with_reducible rfl
           rotate_left
           ·simp only [Act.put, List.setIfInBounds_toArray, List.set_cons_zero, List.set_cons_succ, i64_w, i32_w]
            rfl
           refine pure_ (i := 3) (N := some 75) (v := ?_) (a' := ?_) #[tt, tt, tt, tt, ff, ff, ff, ff, ff, ff, ff, ff, ff, ff, ff, ff, ff, ff, ff, ff, ff, ff, ff, ff, ff, ff, ff, ff, ff, ff, ff, ff, ff, ff, ff, ff, ff, ff, ff, ff, ff, ff, ff, ff, ff, ff, ff, ff, ff, ff, ff, ff] rfl rfl (any_of HT_.out (by kernel_rfl)) (fun _ _ _ h => h) (Or.inl ⟨by rfl, ?_⟩) ?_ ?_
           rotate_left
           ·intro w'
            go_simp
            with_reducible rfl
           rotate_left
           ·simp only [Act.put, List.setIfInBounds_toArray, List.set_cons_zero, List.set_cons_succ, i64_w, i32_w]
            rfl
           refine pure_ (i := 4) (N := some 76) (v := ?_) (a' := ?_) #[tt, tt, tt, tt, tt, ff, ff, ff, ff, ff, ff, ff, ff, ff, ff, ff, ff, ff, ff, ff, ff, ff, ff, ff, ff, ff, ff, ff, ff, ff, ff, ff, ff, ff, ff, ff, ff, ff, ff, ff, ff, ff, ff, ff, ff, ff, ff, ff, ff, ff, ff, ff] rfl rfl (any_of HT_.out (by kernel_rfl)) (fun _ _ _ h => h) (Or.inl ⟨by rfl, ?_⟩) ?_ ?_
           rotate_left
           ·intro w'
            go_simp
            with_reducible rfl
           rotate_left
           ·simp only [Act.put, List.setIfInBounds_toArray, List.set_cons_zero, List.set_cons_succ, i64_w, i32_w]
            rfl
           refine pure_ (i := 5) (N := some 77) (v := ?_) (a' := ?_) #[tt, tt, tt, tt, tt, tt, ff, ff, ff, ff, ff, ff, ff, ff, ff, ff, ff, ff, ff, ff, ff, ff, ff, ff, ff, ff, ff, ff, ff, ff, ff, ff, ff, ff, ff, ff, ff, ff, ff, ff, ff, ff, ff, ff, ff, ff, ff, ff, ff, ff, ff, ff] rfl rfl (any_of HT_.out (by kernel_rfl)) (fun _ _ _ h => h) (Or.inl ⟨by rfl, ?_⟩) ?_ ?_
           rotate_left
           ·intro w'
            go_simp
            with_reducible rfl
           rotate_left
           ·simp only [Act.put, List.setIfInBounds_toArray, List.set_cons_zero, List.set_cons_succ, i64_w, i32_w]
            rfl
           refine pure_ (i := 6) (N := some 78) (v := ?_) (a' := ?_) #[tt, tt, tt, tt, tt, tt, tt, ff, ff, ff, ff, ff, ff, ff, ff, ff, ff, ff, ff, ff, ff, ff, ff, ff, ff, ff, ff, ff, ff, ff, ff, ff, ff, ff, ff, ff, ff, ff, ff, ff, ff, ff, ff, ff, ff, ff, ff, ff, ff, ff, ff, ff] rfl rfl (any_of HT_.out (by kernel_rfl)) (fun _ _ _ h => h) (Or.inl ⟨by rfl, ?_⟩) ?_ ?_
           rotate_left
           ·intro w'
            go_simp
            with_reducible rfl
           rotate_left
           ·simp only [Act.put, List.setIfInBounds_toArray, List.set_cons_zero, List.set_cons_succ, i64_w, i32_w]
            rfl
           refine pure_ (i := 11) (N := some 83) (v := ?_) (a' := ?_) #[tt, tt, tt, tt, tt, tt, tt, ff, ff, ff, ff, tt, ff, ff, ff, ff, ff, ff, ff, ff, ff, ff, ff, ff, ff, ff, ff, ff, ff, ff, ff, ff, ff, ff, ff, ff, ff, ff, ff, ff, ff, ff, ff, ff, ff, ff, ff, ff, ff, ff, ff, ff] rfl rfl (any_of HT_.out (by kernel_rfl)) (fun _ _ _ h => h) (Or.inl ⟨by rfl, ?_⟩) ?_ ?_
           rotate_left
           ·intro w'
            go_simp
            with_reducible rfl
           rotate_left
           ·simp only [Act.put, List.setIfInBounds_toArray, List.set_cons_zero, List.set_cons_succ, i64_w, i32_w]
            rfl
           refine pure_ (i := 12) (N := some 84) (v := ?_) (a' := ?_) #[tt, tt, tt, tt, tt, tt, tt, ff, ff, ff, ff, tt, tt, ff, ff, ff, ff, ff, ff, ff, ff, ff, ff, ff, ff, ff, ff, ff, ff, ff, ff, ff, ff, ff, ff, ff, ff, ff, ff, ff, ff, ff, ff, ff, ff, ff, ff, ff, ff, ff, ff, ff] rfl rfl (any_of HT_.out (by kernel_rfl)) (fun _ _ _ h => h) (Or.inl ⟨by rfl, ?_⟩) ?_ ?_
           rotate_left
           ·intro w'
            go_simp
            with_reducible rfl
           rotate_left
           ·simp only [Act.put, List.setIfInBounds_toArray, List.set_cons_zero, List.set_cons_succ, i64_w, i32_w]
            rfl
           refine pure_ (i := 13) (N := some 85) (v := ?_) (a' := ?_) #[tt, tt, tt, tt, tt, tt, tt, ff, ff, ff, ff, tt, tt, tt, ff, ff, ff, ff, ff, ff, ff, ff, ff, ff, ff, ff, ff, ff, ff, ff, ff, ff, ff, ff, ff, ff, ff, ff, ff, ff, ff, ff, ff, ff, ff, ff, ff, ff, ff, ff, ff, ff] rfl rfl (any_of HT_.out (by kernel_rfl)) (fun _ _ _ h => h) (Or.inl ⟨by rfl, ?_⟩) ?_ ?_
           rotate_left
           ·intro w'
            go_simp
            with_reducible rfl
           rotate_left
           ·simp only [Act.put, List.setIfInBounds_toArray, List.set_cons_zero, List.set_cons_succ, i64_w, i32_w]
            rfl
           refine pure_ (i := 15) (N := some 87) (v := ?_) (a' := ?_) #[tt, tt, tt, tt, tt, tt, tt, ff, ff, ff, ff, tt, tt, tt, ff, tt, ff, ff, ff, ff, ff, ff, ff, ff, ff, ff, ff, ff, ff, ff, ff, ff, ff, ff, ff, ff, ff, ff, ff, ff, ff, ff, ff, ff, ff, ff, ff, ff, ff, ff, ff, ff] rfl rfl (any_of HT_.out (by kernel_rfl)) (fun _ _ _ h => h) (Or.inl ⟨by rfl, ?_⟩) ?_ ?_
           rotate_left
           ·intro w'
            go_simp
            with_reducible rfl
           rotate_left
           ·simp only [Act.put, List.setIfInBounds_toArray, List.set_cons_zero, List.set_cons_succ, i64_w, i32_w]
            rfl
           refine pure_ (i := 18) (N := some 90) (v := ?_) (a' := ?_) #[tt, tt, tt, tt, tt, tt, tt, ff, ff, ff, ff, tt, tt, tt, ff, tt, ff, ff, tt, ff, ff, ff, ff, ff, ff, ff, ff, ff, ff, ff, ff, ff, ff, ff, ff, ff, ff, ff, ff, ff, ff, ff, ff, ff, ff, ff, ff, ff, ff, ff, ff, ff] rfl rfl (any_of HT_.out (by kernel_rfl)) (fun _ _ _ h => h) (Or.inl ⟨by rfl, ?_⟩) ?_ ?_
           rotate_left
           ·intro w'
            go_simp
            with_reducible rfl
           rotate_left
           ·simp only [Act.put, List.setIfInBounds_toArray, List.set_cons_zero, List.set_cons_succ, i64_w, i32_w]
            rfl
           refine pure_ (i := 19) (N := some 91) (v := ?_) (a' := ?_) #[tt, tt, tt, tt, tt, tt, tt, ff, ff, ff, ff, tt, tt, tt, ff, tt, ff, ff, tt, tt, ff, ff, ff, ff, ff, ff, ff, ff, ff, ff, ff, ff, ff, ff, ff, ff, ff, ff, ff, ff, ff, ff, ff, ff, ff, ff, ff, ff, ff, ff, ff, ff] rfl rfl (any_of HT_.out (by kernel_rfl)) (fun _ _ _ h => h) (Or.inl ⟨by rfl, ?_⟩) ?_ ?_
           rotate_left
           ·intro w'
            go_simp
            with_reducible rfl
           rotate_left
           ·simp only [Act.put, List.setIfInBounds_toArray, List.set_cons_zero, List.set_cons_succ, i64_w, i32_w]
            rfl
           refine pure_ (i := 20) (N := some 92) (v := ?_) (a' := ?_) #[tt, tt, tt, tt, tt, tt, tt, ff, ff, ff, ff, tt, tt, tt, ff, tt, ff, ff, tt, tt, tt, ff, ff, ff, ff, ff, ff, ff, ff, ff, ff, ff, ff, ff, ff, ff, ff, ff, ff, ff, ff, ff, ff, ff, ff, ff, ff, ff, ff, ff, ff, ff] rfl rfl (any_of HT_.out (by kernel_rfl)) (fun _ _ _ h => h) (Or.inl ⟨by rfl, ?_⟩) ?_ ?_
           rotate_left
           ·intro w'
            go_simp
            with_reducible rfl
           rotate_left
           ·simp only [Act.put, List.setIfInBounds_toArray, List.set_cons_zero, List.set_cons_succ, i64_w, i32_w]
            rfl
           refine pure_ (i := 22) (N := some 94) (v := ?_) (a' := ?_) #[tt, tt, tt, tt, tt, tt, tt, ff, ff, ff, ff, tt, tt, tt, ff, tt, ff, ff, tt, tt, tt, ff, tt, ff, ff, ff, ff, ff, ff, ff, ff, ff, ff, ff, ff, ff, ff, ff, ff, ff, ff, ff, ff, ff, ff, ff, ff, ff, ff, ff, ff, ff] rfl rfl (any_of HT_.out (by kernel_rfl)) (fun _ _ _ h => h) (Or.inl ⟨by rfl, ?_⟩) ?_ ?_
           rotate_left
           ·intro w'
            go_simp
            with_reducible rfl
           rotate_left
           ·simp only [Act.put, List.setIfInBounds_toArray, List.set_cons_zero, List.set_cons_succ, i64_w, i32_w]
            rfl
           refine pure_ (i := 23) (N := some 95) (v := ?_) (a' := ?_) #[tt, tt, tt, tt, tt, tt, tt, ff, ff, ff, ff, tt, tt, tt, ff, tt, ff, ff, tt, tt, tt, ff, tt, tt, ff, ff, ff, ff, ff, ff, ff, ff, ff, ff, ff, ff, ff, ff, ff, ff, ff, ff, ff, ff, ff, ff, ff, ff, ff, ff, ff, ff] rfl rfl (any_of HT_.out (by kernel_rfl)) (fun _ _ _ h => h) (Or.inl ⟨by rfl, ?_⟩) ?_ ?_
           rotate_left
           ·intro w'
            go_simp
            with_reducible rfl
           rotate_left
           ·simp only [Act.put, List.setIfInBounds_toArray, List.set_cons_zero, List.set_cons_succ, i64_w, i32_w]
            rfl
           refine pure_ (i := 26) (N := some 98) (v := ?_) (a' := ?_) #[tt, tt, tt, tt, tt, tt, tt, ff, ff, ff, ff, tt, tt, tt, ff, tt, ff, ff, tt, tt, tt, ff, tt, tt, ff, ff, tt, ff, ff, ff, ff, ff, ff, ff, ff, ff, ff, ff, ff, ff, ff, ff, ff, ff, ff, ff, ff, ff, ff, ff, ff, ff] rfl rfl (any_of HT_.out (by kernel_rfl)) (fun _ _ _ h => h) (Or.inl ⟨by rfl, ?_⟩) ?_ ?_
           rotate_left
           ·intro w'
            go_simp
            with_reducible rfl
           rotate_left
           ·simp only [Act.put, List.setIfInBounds_toArray, List.set_cons_zero, List.set_cons_succ, i64_w, i32_w]
            rfl
           refine pure_ (i := 27) (N := some 99) (v := ?_) (a' := ?_) #[tt, tt, tt, tt, tt, tt, tt, ff, ff, ff, ff, tt, tt, tt, ff, tt, ff, ff, tt, tt, tt, ff, tt, tt, ff, ff, tt, tt, ff, ff, ff, ff, ff, ff, ff, ff, ff, ff, ff, ff, ff, ff, ff, ff, ff, ff, ff, ff, ff, ff, ff, ff] rfl rfl (any_of HT_.out (by kernel_rfl)) (fun _ _ _ h => h) (Or.inl ⟨by rfl, ?_⟩) ?_ ?_
           rotate_left
           ·intro w'
            go_simp
            with_reducible rfl
           rotate_left
           ·simp only [Act.put, List.setIfInBounds_toArray, List.set_cons_zero, List.set_cons_succ, i64_w, i32_w]
            rfl
           refine pure_ (i := 28) (N := some 100) (v := ?_) (a' := ?_) #[tt, tt, tt, tt, tt, tt, tt, ff, ff, ff, ff, tt, tt, tt, ff, tt, ff, ff, tt, tt, tt, ff, tt, tt, ff, ff, tt, tt, tt, ff, ff, ff, ff, ff, ff, ff, ff, ff, ff, ff, ff, ff, ff, ff, ff, ff, ff, ff, ff, ff, ff, ff] rfl rfl (any_of HT_.out (by kernel_rfl)) (fun _ _ _ h => h) (Or.inl ⟨by rfl, ?_⟩) ?_ ?_
           rotate_left
           ·intro w'
            go_simp
            with_reducible rfl
           rotate_left
           ·simp only [Act.put, List.setIfInBounds_toArray, List.set_cons_zero, List.set_cons_succ, i64_w, i32_w]
            rfl
           refine pure_ (i := 30) (N := some 102) (v := ?_) (a' := ?_) #[tt, tt, tt, tt, tt, tt, tt, ff, ff, ff, ff, tt, tt, tt, ff, tt, ff, ff, tt, tt, tt, ff, tt, tt, ff, ff, tt, tt, tt, ff, tt, ff, ff, ff, ff, ff, ff, ff, ff, ff, ff, ff, ff, ff, ff, ff, ff, ff, ff, ff, ff, ff] rfl rfl (any_of HT_.out (by kernel_rfl)) (fun _ _ _ h => h) (Or.inl ⟨by rfl, ?_⟩) ?_ ?_
           rotate_left
           ·intro w'
            go_simp
            with_reducible rfl
           rotate_left
           ·simp only [Act.put, List.setIfInBounds_toArray, List.set_cons_zero, List.set_cons_succ, i64_w, i32_w]
            rfl
           refine pure_ (i := 31) (N := some 103) (v := ?_) (a' := ?_) #[tt, tt, tt, tt, tt, tt, tt, ff, ff, ff, ff, tt, tt, tt, ff, tt, ff, ff, tt, tt, tt, ff, tt, tt, ff, ff, tt, tt, tt, ff, tt, tt, ff, ff, ff, ff, ff, ff, ff, ff, ff, ff, ff, ff, ff, ff, ff, ff, ff, ff, ff, ff] rfl rfl (any_of HT_.out (by kernel_rfl)) (fun _ _ _ h => h) (Or.inl ⟨by rfl, ?_⟩) ?_ ?_
           rotate_left
           ·intro w'
            go_simp
            with_reducible rfl
           rotate_left
           ·simp only [Act.put, List.setIfInBounds_toArray, List.set_cons_zero, List.set_cons_succ, i64_w, i32_w]
            rfl
           refine pure_ (i := 32) (N := some 104) (v := ?_) (a' := ?_) #[tt, tt, tt, tt, tt, tt, tt, ff, ff, ff, ff, tt, tt, tt, ff, tt, ff, ff, tt, tt, tt, ff, tt, tt, ff, ff, tt, tt, tt, ff, tt, tt, tt, ff, ff, ff, ff, ff, ff, ff, ff, ff, ff, ff, ff, ff, ff, ff, ff, ff, ff, ff] rfl rfl (any_of HT_.out (by kernel_rfl)) (fun _ _ _ h => h) (Or.inl ⟨by rfl, ?_⟩) ?_ ?_
           rotate_left
           ·intro w'
            go_simp
            with_reducible rfl
           rotate_left
           ·simp only [Act.put, List.setIfInBounds_toArray, List.set_cons_zero, List.set_cons_succ, i64_w, i32_w]
            rfl
           refine pure_ (i := 34) (N := some 106) (v := ?_) (a' := ?_) #[tt, tt, tt, tt, tt, tt, tt, ff, ff, ff, ff, tt, tt, tt, ff, tt, ff, ff, tt, tt, tt, ff, tt, tt, ff, ff, tt, tt, tt, ff, tt, tt, tt, ff, tt, ff, ff, ff, ff, ff, ff, ff, ff, ff, ff, ff, ff, ff, ff, ff, ff, ff] rfl rfl (any_of HT_.out (by kernel_rfl)) (fun _ _ _ h => h) (Or.inl ⟨by rfl, ?_⟩) ?_ ?_
           rotate_left
           ·intro w'
            go_simp
            with_reducible rfl
           rotate_left
           ·simp only [Act.put, List.setIfInBounds_toArray, List.set_cons_zero, List.set_cons_succ, i64_w, i32_w]
            rfl
           refine inv_at [7, 8, 9, 10, 14, 16, 17, 21, 24, 25, 29, 33, 35, 36, 37, 38, 39, 40, 41, 42, 43, 44, 45, 46, 47, 48, 49, 50, 51] (fun a0_ b a w' => ∃ (g9_ : Nat) (g16_ : Nat) (g24_ : Nat) (g38_ : Nat) (u0_ : Value) (u1_ : Value) (u2_ : Value) (u3_ : Value) (m9_ : Value) (m16_ : Value) (m24_ : Value) (m38_ : Value), a = putSel a0_ b [(7, 79, .slice (some ⟨b0, 0, none⟩) n c0), (8, 80, .agg #[.int .i64 u.x, .int .i64 u.y, .int .i64 u.d.t, .int .i64 u.d.n, .int .i64 u.d.e, .int .i64 u.d.s, .int .i64 u.d.w, .int .i64 u.d.b]), (9, 81, m9_), (10, 82, u0_), (14, 86, .slice (some ⟨b1, 0, none⟩) n c1), (16, 88, m16_), (17, 89, u1_), (21, 93, .slice (some ⟨b2, 0, none⟩) n c2), (24, 96, m24_), (25, 97, u2_), (29, 101, .slice (some ⟨b3, 0, none⟩) n c3), (33, 105, .slice (some ⟨b3, 0, none⟩) n c3), (35, 107, .pointer (some ⟨b3, k, none⟩)), (36, 108, .int .i64 (fk : Int)), (37, 109, .int .i64 ((fk : Int) + 1)), (38, 110, m38_), (39, 111, u3_), (40, 112, .pointer (some ⟨Br, 0, none⟩)), (41, 113, .pointer (some ⟨Br, 0, none⟩)), (43, 114, .pointer (some ⟨Br, 0, none⟩)), (44, 115, .pointer (some ⟨Br, 1, none⟩)), (46, 116, .pointer (some ⟨Br, 0, none⟩)), (47, 117, .pointer (some ⟨Br, 2, none⟩)), (49, 118, .pointer (some ⟨Br, 0, none⟩)), (50, 119, .pointer (some ⟨Br, 3, none⟩))] ∧ (Below w.heap.size w w') ∧ (w12.heap.size ≤ w'.heap.size) ∧ (b 8 = false → w'.heap[go_]? = some (.cells (st8 u) 30 (0, 0)) ∧ w.heap.size ≤ go_ ∧ b0 < go_) ∧ (b 42 = false → w'.heap[Br]? = some (.cells #[.slice (some ⟨b0, 0, none⟩) n c0, .slice (some ⟨b1, 0, none⟩) n c1, .slice (some ⟨b2, 0, none⟩) n c2, .slice (some ⟨b3, 0, none⟩) n c3, .map (some M)] 65 (0, 0))) ∧ (b 42 = true → b 45 = false → w'.heap[Br]? = some (.cells #[u0_, .slice (some ⟨b1, 0, none⟩) n c1, .slice (some ⟨b2, 0, none⟩) n c2, .slice (some ⟨b3, 0, none⟩) n c3, .map (some M)] 65 (0, 0))) ∧ (b 45 = true → b 48 = false → w'.heap[Br]? = some (.cells #[u0_, u1_, .slice (some ⟨b2, 0, none⟩) n c2, .slice (some ⟨b3, 0, none⟩) n c3, .map (some M)] 65 (0, 0))) ∧ (b 48 = true → b 51 = false → w'.heap[Br]? = some (.cells #[u0_, u1_, u2_, .slice (some ⟨b3, 0, none⟩) n c3, .map (some M)] 65 (0, 0))) ∧ (b 51 = true → w'.heap[Br]? = some (.cells #[u0_, u1_, u2_, u3_, .map (some M)] 65 (0, 0))) ∧ (holds w' encSt valN M (ks ++ [u])) ∧ (b 10 = false → Kd.R kSt 30 w' w.heap.size (fun _ => True) (.slice (some ⟨b0, 0, none⟩) n c0) xs0) ∧ (b 10 = true → Kd.R kSt 30 w' w.heap.size (fun _ => True) u0_ (xs0 ++ [sSt u])) ∧ (b 10 = true → ∀ k_, u0_.ownBlock = some k_ → k_ = b0 ∨ w12.heap.size ≤ k_) ∧ (b 9 = true → b 10 = false → w'.heap[g9_]? = some (.cells (st8 u) 30 (0, 0)) ∧ w12.heap.size ≤ g9_) ∧ (b 17 = false → Kd.R (Kd.int .i64) 3 w' w.heap.size (fun _ => True) (.slice (some ⟨b1, 0, none⟩) n c1) xs1) ∧ (b 17 = true → Kd.R (Kd.int .i64) 3 w' w.heap.size (fun _ => True) u1_ (xs1 ++ [(k : Int)])) ∧ (b 17 = true → ∀ k_, u1_.ownBlock = some k_ → k_ = b1 ∨ w12.heap.size ≤ k_) ∧ (b 16 = true → b 17 = false → w'.heap[g16_]? = some (.cells #[.int .i64 (k : Int)] 3 (0, 0)) ∧ w12.heap.size ≤ g16_) ∧ (b 25 = false → Kd.R (Kd.int .u8) 5 w' w.heap.size (fun _ => True) (.slice (some ⟨b2, 0, none⟩) n c2) xs2) ∧ (b 25 = true → Kd.R (Kd.int .u8) 5 w' w.heap.size (fun _ => True) u2_ (xs2 ++ [byt i])) ∧ (b 25 = true → ∀ k_, u2_.ownBlock = some k_ → k_ = b2 ∨ w12.heap.size ≤ k_) ∧ (b 24 = true → b 25 = false → w'.heap[g24_]? = some (.cells #[.int .u8 (byt i)] 5 (0, 0)) ∧ w12.heap.size ≤ g24_) ∧ (b 39 = false → Kd.R (Kd.int .i64) 3 w' w.heap.size (fun _ => True) (.slice (some ⟨b3, 0, none⟩) n c3) xs3) ∧ (b 39 = true → Kd.R (Kd.int .i64) 3 w' w.heap.size (fun _ => True) u3_ (xs3 ++ [(fk : Int) + 1])) ∧ (b 39 = true → ∀ k_, u3_.ownBlock = some k_ → k_ = b3 ∨ w12.heap.size ≤ k_) ∧ (b 38 = true → b 39 = false → w'.heap[g38_]? = some (.cells #[.int .i64 ((fk : Int) + 1)] 3 (0, 0)) ∧ w12.heap.size ≤ g38_) ∧ (b 39 = true → ∀ k_, u1_.ownBlock = some k_ → u3_.ownBlock = some k_ → False) ∧ (b 9 = true → (m9_ : Value) = .slice (some ⟨g9_, 0, none⟩) 1 1) ∧ (b 16 = true → (m16_ : Value) = .slice (some ⟨g16_, 0, none⟩) 1 1) ∧ (b 24 = true → (m24_ : Value) = .slice (some ⟨g24_, 0, none⟩) 1 1) ∧ (b 38 = true → (m38_ : Value) = .slice (some ⟨g38_, 0, none⟩) 1 1)) HT_.out HW_.out (by kernel_rfl) (by kernel_rfl) ?_ ?_ ?_
           ·exact ⟨0, 0, 0, 0, .bool false, .bool false, .bool false, .bool false, .bool false, .bool false, .bool false, .bool false, by simp only [putSel, Bool.false_eq_true, if_false], HB.out, SZ.out, fun _ => BO.out, fun _ => BR.out, fun h_ => absurd h_ (by decide), fun h_ => absurd h_ (by decide), fun h_ => absurd h_ (by decide), fun h_ => absurd h_ (by decide), HM.out, fun _ => A0.out, fun h_ => absurd h_ (by decide), fun h_ => absurd h_ (by decide), fun h_ => absurd h_ (by decide), fun _ => A1.out, fun h_ => absurd h_ (by decide), fun h_ => absurd h_ (by decide), fun h_ => absurd h_ (by decide), fun _ => A2.out, fun h_ => absurd h_ (by decide), fun h_ => absurd h_ (by decide), fun h_ => absurd h_ (by decide), fun _ => A3.out, fun h_ => absurd h_ (by decide), fun h_ => absurd h_ (by decide), fun h_ => absurd h_ (by decide), fun h_ => absurd h_ (by decide), fun h_ => absurd h_ (by decide), fun h_ => absurd h_ (by decide), fun h_ => absurd h_ (by decide), fun h_ => absurd h_ (by decide)⟩
           ·skip
            clear A0 A1 A2 A3 BO BR HB HM SZ
            refine steps_cons ?_ ?_
            ·rintro b a w' ⟨g9_, g16_, g24_, g38_, u0_, u1_, u2_, u3_, m9_, m16_, m24_, m38_, ha, Q_HB, Q_SZ, Q_BO, Q_BR, Q_BRb, Q_BRc, Q_BRd, Q_BRe, Q_HM, Q_A0, Q_U0, Q_E0, Q_L0, Q_A1, Q_U1, Q_E1, Q_L1, Q_A2, Q_U2, Q_E2, Q_L2, Q_A3, Q_U3, Q_E3, Q_L3, Q_N13, Q_X9_, Q_X16_, Q_X24_, Q_X38_⟩ hb_ hon hoff
             refine ⟨_, rfl, fun K hK => ?_⟩
             have e78 : a.tmps[78]? = some (.pointer (some ⟨Br, 0, none⟩)) := by rw [ha]; exact (putSel_off rfl).trans rfl
             replace ha := am ha
             have HB := am Q_HB
             have SZ := am Q_SZ
             have BR := am (Q_BR (hoff 42 (by kernel_rfl)))
             have HM := am Q_HM
             have A0 := am (Q_A0 (hoff 10 (by kernel_rfl)))
             have A1 := am (Q_A1 (hoff 17 (by kernel_rfl)))
             have A2 := am (Q_A2 (hoff 25 (by kernel_rfl)))
             have A3 := am (Q_A3 (hoff 39 (by kernel_rfl)))
             have hv_ : w'.cell? ⟨Br, 0, none⟩ = some (.slice (some ⟨b0, 0, none⟩) n c0) := blk_cell BR.out 0
             refine value_ (w1 := w') (v := .slice (some ⟨b0, 0, none⟩) n c0) (by rfl) rfl ?_ ?_
             ·go_simp
              (try simp only [i64_w])
              try rfl
             refine hK.out _ _ ⟨g9_, g16_, g24_, g38_, u0_, u1_, u2_, u3_, m9_, m16_, m24_, m38_, (by rw [ha.out]; exact putSel_upk 0 hb_ rfl rfl rfl), Q_HB, Q_SZ, Q_BO, Q_BR, fun h0_ _ => absurd ((hoff 42 (by kernel_rfl)).symm.trans h0_) (by decide), fun h0_ _ => absurd ((hoff 45 (by kernel_rfl)).symm.trans h0_) (by decide), fun h0_ _ => absurd ((hoff 48 (by kernel_rfl)).symm.trans h0_) (by decide), fun h0_ => absurd ((hoff 51 (by kernel_rfl)).symm.trans h0_) (by decide), Q_HM, Q_A0, fun h0_ => absurd ((hoff 10 (by kernel_rfl)).symm.trans h0_) (by decide), fun h0_ => absurd ((hoff 10 (by kernel_rfl)).symm.trans h0_) (by decide), Q_L0, Q_A1, fun h0_ => absurd ((hoff 17 (by kernel_rfl)).symm.trans h0_) (by decide), fun h0_ => absurd ((hoff 17 (by kernel_rfl)).symm.trans h0_) (by decide), Q_L1, Q_A2, fun h0_ => absurd ((hoff 25 (by kernel_rfl)).symm.trans h0_) (by decide), fun h0_ => absurd ((hoff 25 (by kernel_rfl)).symm.trans h0_) (by decide), Q_L2, Q_A3, fun h0_ => absurd ((hoff 39 (by kernel_rfl)).symm.trans h0_) (by decide), fun h0_ => absurd ((hoff 39 (by kernel_rfl)).symm.trans h0_) (by decide), Q_L3, fun h0_ => absurd ((hoff 39 (by kernel_rfl)).symm.trans h0_) (by decide), Q_X9_, Q_X16_, Q_X24_, Q_X38_⟩
            refine steps_cons ?_ ?_
            ·rintro b a w' ⟨g9_, g16_, g24_, g38_, u0_, u1_, u2_, u3_, m9_, m16_, m24_, m38_, ha, Q_HB, Q_SZ, Q_BO, Q_BR, Q_BRb, Q_BRc, Q_BRd, Q_BRe, Q_HM, Q_A0, Q_U0, Q_E0, Q_L0, Q_A1, Q_U1, Q_E1, Q_L1, Q_A2, Q_U2, Q_E2, Q_L2, Q_A3, Q_U3, Q_E3, Q_L3, Q_N13, Q_X9_, Q_X16_, Q_X24_, Q_X38_⟩ hb_ hon hoff
             refine ⟨_, rfl, fun K hK => ?_⟩
             have e8 : a.tmps[8]? = some (.pointer (some ⟨go_, 0, none⟩)) := by rw [ha]; exact (putSel_off rfl).trans rfl
             replace ha := am ha
             have HB := am Q_HB
             have SZ := am Q_SZ
             have BO := am (Q_BO hb_)
             have BR := am (Q_BR (hoff 42 (by kernel_rfl)))
             have HM := am Q_HM
             have A0 := am (Q_A0 (hoff 10 (by kernel_rfl)))
             have A1 := am (Q_A1 (hoff 17 (by kernel_rfl)))
             have A2 := am (Q_A2 (hoff 25 (by kernel_rfl)))
             have A3 := am (Q_A3 (hoff 39 (by kernel_rfl)))
             have o0 : w'.cell? ⟨go_, 0, none⟩ = some (.int .i64 u.x) := blk_cell BO.out.1 0
             have o1 : w'.cell? ⟨go_, 1, none⟩ = some (.int .i64 u.y) := blk_cell BO.out.1 1
             have o2 : w'.cell? ⟨go_, 2, none⟩ = some (.int .i64 u.d.t) := blk_cell BO.out.1 2
             have o3 : w'.cell? ⟨go_, 3, none⟩ = some (.int .i64 u.d.n) := blk_cell BO.out.1 3
             have o4 : w'.cell? ⟨go_, 4, none⟩ = some (.int .i64 u.d.e) := blk_cell BO.out.1 4
             have o5 : w'.cell? ⟨go_, 5, none⟩ = some (.int .i64 u.d.s) := blk_cell BO.out.1 5
             have o6 : w'.cell? ⟨go_, 6, none⟩ = some (.int .i64 u.d.w) := blk_cell BO.out.1 6
             have o7 : w'.cell? ⟨go_, 7, none⟩ = some (.int .i64 u.d.b) := blk_cell BO.out.1 7
             refine value_ (w1 := w') (v := .agg #[.int .i64 u.x, .int .i64 u.y, .int .i64 u.d.t, .int .i64 u.d.n, .int .i64 u.d.e, .int .i64 u.d.s, .int .i64 u.d.w, .int .i64 u.d.b]) (by rfl) rfl ?_ ?_
             ·go_simp
              (try simp only [i64_w])
              try rfl
             refine hK.out _ _ ⟨g9_, g16_, g24_, g38_, u0_, u1_, u2_, u3_, m9_, m16_, m24_, m38_, (by rw [ha.out]; exact putSel_upk 1 hb_ rfl rfl rfl), Q_HB, Q_SZ, fun h0_ => absurd ((up_self b 8).symm.trans h0_) (by decide), Q_BR, fun h0_ _ => absurd ((hoff 42 (by kernel_rfl)).symm.trans h0_) (by decide), fun h0_ _ => absurd ((hoff 45 (by kernel_rfl)).symm.trans h0_) (by decide), fun h0_ _ => absurd ((hoff 48 (by kernel_rfl)).symm.trans h0_) (by decide), fun h0_ => absurd ((hoff 51 (by kernel_rfl)).symm.trans h0_) (by decide), Q_HM, Q_A0, fun h0_ => absurd ((hoff 10 (by kernel_rfl)).symm.trans h0_) (by decide), fun h0_ => absurd ((hoff 10 (by kernel_rfl)).symm.trans h0_) (by decide), fun h0_ _ => absurd ((hoff 9 (by kernel_rfl)).symm.trans h0_) (by decide), Q_A1, fun h0_ => absurd ((hoff 17 (by kernel_rfl)).symm.trans h0_) (by decide), fun h0_ => absurd ((hoff 17 (by kernel_rfl)).symm.trans h0_) (by decide), Q_L1, Q_A2, fun h0_ => absurd ((hoff 25 (by kernel_rfl)).symm.trans h0_) (by decide), fun h0_ => absurd ((hoff 25 (by kernel_rfl)).symm.trans h0_) (by decide), Q_L2, Q_A3, fun h0_ => absurd ((hoff 39 (by kernel_rfl)).symm.trans h0_) (by decide), fun h0_ => absurd ((hoff 39 (by kernel_rfl)).symm.trans h0_) (by decide), Q_L3, fun h0_ => absurd ((hoff 39 (by kernel_rfl)).symm.trans h0_) (by decide), fun h0_ => absurd ((hoff 9 (by kernel_rfl)).symm.trans h0_) (by decide), Q_X16_, Q_X24_, Q_X38_⟩
            refine steps_cons ?_ ?_
            ·rintro b a w' ⟨g9_, g16_, g24_, g38_, u0_, u1_, u2_, u3_, m9_, m16_, m24_, m38_, ha, Q_HB, Q_SZ, Q_BO, Q_BR, Q_BRb, Q_BRc, Q_BRd, Q_BRe, Q_HM, Q_A0, Q_U0, Q_E0, Q_L0, Q_A1, Q_U1, Q_E1, Q_L1, Q_A2, Q_U2, Q_E2, Q_L2, Q_A3, Q_U3, Q_E3, Q_L3, Q_N13, Q_X9_, Q_X16_, Q_X24_, Q_X38_⟩ hb_ hon hoff
             refine ⟨_, rfl, fun K hK => ?_⟩
             have e80 : a.tmps[80]? = some (.agg #[.int .i64 u.x, .int .i64 u.y, .int .i64 u.d.t, .int .i64 u.d.n, .int .i64 u.d.e, .int .i64 u.d.s, .int .i64 u.d.w, .int .i64 u.d.b]) := by rw [ha]; exact putSel_on (e := (8, 80, .agg #[.int .i64 u.x, .int .i64 u.y, .int .i64 u.d.t, .int .i64 u.d.n, .int .i64 u.d.e, .int .i64 u.d.s, .int .i64 u.d.w, .int .i64 u.d.b])) 1 rfl rfl (hon 8 (by kernel_rfl)) rfl
             replace ha := am ha
             have HB := am Q_HB
             have SZ := am Q_SZ
             have BR := am (Q_BR (hoff 42 (by kernel_rfl)))
             have HM := am Q_HM
             have A0 := am (Q_A0 (hoff 10 (by kernel_rfl)))
             have A1 := am (Q_A1 (hoff 17 (by kernel_rfl)))
             have A2 := am (Q_A2 (hoff 25 (by kernel_rfl)))
             have A3 := am (Q_A3 (hoff 39 (by kernel_rfl)))
             refine value_ (w1 := ?_) (v := ?_) (by rfl) rfl ?_ ?_
             rotate_left 2
             ·go_simp
              constructor
              ·rfl
              ·rfl
             refine hK.out _ _ ⟨w'.heap.size, g16_, g24_, g38_, u0_, u1_, u2_, u3_, (.slice (some ⟨w'.heap.size, 0, none⟩) 1 1), m16_, m24_, m38_, (by rw [ha.out]; exact putSel_upk 2 hb_ rfl rfl rfl), below_alloc HB.out _, Nat.le_trans SZ.out (Below.size (below_alloc (Below.refl _ w') _)), fun h0_ => absurd ((hon 8 (by kernel_rfl)).symm.trans h0_) (by decide), fun _ => blk_alloc BR.out _, fun h0_ _ => absurd ((hoff 42 (by kernel_rfl)).symm.trans h0_) (by decide), fun h0_ _ => absurd ((hoff 45 (by kernel_rfl)).symm.trans h0_) (by decide), fun h0_ _ => absurd ((hoff 48 (by kernel_rfl)).symm.trans h0_) (by decide), fun h0_ => absurd ((hoff 51 (by kernel_rfl)).symm.trans h0_) (by decide), holds_below HM.out (below_alloc (Below.refl _ _) _), fun _ => Kd.R_alloc A0.out _, fun h0_ => absurd ((hoff 10 (by kernel_rfl)).symm.trans h0_) (by decide), fun h0_ => absurd ((hoff 10 (by kernel_rfl)).symm.trans h0_) (by decide), fun _ _ => ⟨blk_new _ _, SZ.out⟩, fun _ => Kd.R_alloc A1.out _, fun h0_ => absurd ((hoff 17 (by kernel_rfl)).symm.trans h0_) (by decide), fun h0_ => absurd ((hoff 17 (by kernel_rfl)).symm.trans h0_) (by decide), fun h0_ h1_ => ⟨blk_alloc (Q_L1 h0_ h1_).1 _, (Q_L1 h0_ h1_).2⟩, fun _ => Kd.R_alloc A2.out _, fun h0_ => absurd ((hoff 25 (by kernel_rfl)).symm.trans h0_) (by decide), fun h0_ => absurd ((hoff 25 (by kernel_rfl)).symm.trans h0_) (by decide), fun h0_ h1_ => ⟨blk_alloc (Q_L2 h0_ h1_).1 _, (Q_L2 h0_ h1_).2⟩, fun _ => Kd.R_alloc A3.out _, fun h0_ => absurd ((hoff 39 (by kernel_rfl)).symm.trans h0_) (by decide), fun h0_ => absurd ((hoff 39 (by kernel_rfl)).symm.trans h0_) (by decide), fun h0_ h1_ => ⟨blk_alloc (Q_L3 h0_ h1_).1 _, (Q_L3 h0_ h1_).2⟩, fun h0_ => absurd ((hoff 39 (by kernel_rfl)).symm.trans h0_) (by decide), fun _ => rfl, Q_X16_, Q_X24_, Q_X38_⟩
            refine steps_cons ?_ ?_
            ·rintro b a w' ⟨g9_, g16_, g24_, g38_, u0_, u1_, u2_, u3_, m9_, m16_, m24_, m38_, ha, Q_HB, Q_SZ, Q_BO, Q_BR, Q_BRb, Q_BRc, Q_BRd, Q_BRe, Q_HM, Q_A0, Q_U0, Q_E0, Q_L0, Q_A1, Q_U1, Q_E1, Q_L1, Q_A2, Q_U2, Q_E2, Q_L2, Q_A3, Q_U3, Q_E3, Q_L3, Q_N13, Q_X9_, Q_X16_, Q_X24_, Q_X38_⟩ hb_ hon hoff
             refine ⟨_, rfl, fun K hK => ?_⟩
             have e79 : a.tmps[79]? = some (.slice (some ⟨b0, 0, none⟩) n c0) := by rw [ha]; exact putSel_on (e := (7, 79, .slice (some ⟨b0, 0, none⟩) n c0)) 0 rfl rfl (hon 7 (by kernel_rfl)) rfl
             have e81 : a.tmps[81]? = some (m9_) := by rw [ha]; exact putSel_on (e := (9, 81, m9_)) 2 rfl rfl (hon 9 (by kernel_rfl)) rfl
             rw [Q_X9_ (hon 9 (by kernel_rfl))] at e81
             replace ha := am ha
             have HB := am Q_HB
             have SZ := am Q_SZ
             have BR := am (Q_BR (hoff 42 (by kernel_rfl)))
             have HM := am Q_HM
             have A0 := am (Q_A0 hb_)
             have L0 := am (Q_L0 (hon 9 (by kernel_rfl)) hb_)
             have A1 := am (Q_A1 (hoff 17 (by kernel_rfl)))
             have A2 := am (Q_A2 (hoff 25 (by kernel_rfl)))
             have A3 := am (Q_A3 (hoff 39 (by kernel_rfl)))
             have hlit_ := lit_R kSt (base := w.heap.size) (Nat.le_trans HWS.out L0.out.2) (cs := ((st8 u) : Array Value).toList) L0.out.1 (x := sSt u) (k30_mkM _ _ _ _)
             refine Kd.R_append_rows_step kSt (Rr := (kSt).K w') (w0 := w) w.heap.size (by rfl) (.tmp 79) (.tmp 81) 61 30 (.agg #[.int .i64 0, .int .i64 0, .int .i64 0, .int .i64 0, .int .i64 0, .int .i64 0, .int .i64 0, .int .i64 0]) 64 rfl Tryd.underlying61 infoS rfl (by decide) (by decide) (.slice (some ⟨b0, 0, none⟩) n c0) xs0 [sSt u] (some ⟨g9_, 0, none⟩) 1 1 (fun _ => True) (fun _ => False) (eval_of e79) (eval_of e81) A0.out (Kd.R_reads' hlit_).2.2 (fun x_ cs_ h_ => by obtain rfl := k30_open h_; exact k30_mkM _ _ _ _) (fun _ hk => hk.elim) (fun _ _ => trivial) HB.out HB.out.size (by have h_ := HLN.out; omega) ?_
             intro u0 w1 ho hb hg hat
             refine hK.out _ _ ⟨g9_, g16_, g24_, g38_, u0, u1_, u2_, u3_, m9_, m16_, m24_, m38_, (by rw [ha.out]; exact putSel_upk 3 hb_ rfl rfl rfl), hb, Nat.le_trans SZ.out hg.size, fun h0_ => absurd ((hon 8 (by kernel_rfl)).symm.trans h0_) (by decide), fun _ => (hg.block Br (blk_lt BR.out) (fun e_ => HRD.out.1 (Option.some.inj e_))).trans BR.out, fun h0_ _ => absurd ((hoff 42 (by kernel_rfl)).symm.trans h0_) (by decide), fun h0_ _ => absurd ((hoff 45 (by kernel_rfl)).symm.trans h0_) (by decide), fun h0_ _ => absurd ((hoff 48 (by kernel_rfl)).symm.trans h0_) (by decide), fun h0_ => absurd ((hoff 51 (by kernel_rfl)).symm.trans h0_) (by decide), holds_grown HM.out hg (fun e_ => HMD.out.1 (Option.some.inj e_)), fun h0_ => absurd ((up_self b 10).symm.trans h0_) (by decide), fun _ => ho, fun _ => own_new (v := .slice (some ⟨b0, 0, none⟩) n c0) rfl SZ.out hat, fun _ h1_ => absurd ((up_self b 10).symm.trans h1_) (by decide), fun _ => grow_R (fun h_ => h_) A1.out hg (fun k_ hk_ => by show k_ ≠ b0; have h2_ : b1 = k_ := (by simpa [Value.ownBlock] using hk_); have h3_ := HBD.out; omega), fun h0_ => absurd ((hoff 17 (by kernel_rfl)).symm.trans h0_) (by decide), fun h0_ => absurd ((hoff 17 (by kernel_rfl)).symm.trans h0_) (by decide), fun h0_ h1_ => ⟨(hg.block g16_ (blk_lt (Q_L1 h0_ h1_).1) (fun e_ => by have e2_ : g16_ = b0 := Option.some.inj e_; have h2_ := (Q_L1 h0_ h1_).2; have h4_ := HBL.out; omega)).trans (Q_L1 h0_ h1_).1, (Q_L1 h0_ h1_).2⟩, fun _ => grow_R (fun h_ => h_) A2.out hg (fun k_ hk_ => by show k_ ≠ b0; have h2_ : b2 = k_ := (by simpa [Value.ownBlock] using hk_); have h3_ := HBD.out; omega), fun h0_ => absurd ((hoff 25 (by kernel_rfl)).symm.trans h0_) (by decide), fun h0_ => absurd ((hoff 25 (by kernel_rfl)).symm.trans h0_) (by decide), fun h0_ h1_ => ⟨(hg.block g24_ (blk_lt (Q_L2 h0_ h1_).1) (fun e_ => by have e2_ : g24_ = b0 := Option.some.inj e_; have h2_ := (Q_L2 h0_ h1_).2; have h4_ := HBL.out; omega)).trans (Q_L2 h0_ h1_).1, (Q_L2 h0_ h1_).2⟩, fun _ => grow_R (fun h_ => h_) A3.out hg (fun k_ hk_ => by show k_ ≠ b0; have h2_ : b3 = k_ := (by simpa [Value.ownBlock] using hk_); have h3_ := HBD.out; omega), fun h0_ => absurd ((hoff 39 (by kernel_rfl)).symm.trans h0_) (by decide), fun h0_ => absurd ((hoff 39 (by kernel_rfl)).symm.trans h0_) (by decide), fun h0_ h1_ => ⟨(hg.block g38_ (blk_lt (Q_L3 h0_ h1_).1) (fun e_ => by have e2_ : g38_ = b0 := Option.some.inj e_; have h2_ := (Q_L3 h0_ h1_).2; have h4_ := HBL.out; omega)).trans (Q_L3 h0_ h1_).1, (Q_L3 h0_ h1_).2⟩, fun h0_ => absurd ((hoff 39 (by kernel_rfl)).symm.trans h0_) (by decide), Q_X9_, Q_X16_, Q_X24_, Q_X38_⟩
            refine steps_cons ?_ ?_
            ·rintro b a w' ⟨g9_, g16_, g24_, g38_, u0_, u1_, u2_, u3_, m9_, m16_, m24_, m38_, ha, Q_HB, Q_SZ, Q_BO, Q_BR, Q_BRb, Q_BRc, Q_BRd, Q_BRe, Q_HM, Q_A0, Q_U0, Q_E0, Q_L0, Q_A1, Q_U1, Q_E1, Q_L1, Q_A2, Q_U2, Q_E2, Q_L2, Q_A3, Q_U3, Q_E3, Q_L3, Q_N13, Q_X9_, Q_X16_, Q_X24_, Q_X38_⟩ hb_ hon hoff
             refine ⟨_, rfl, fun K hK => ?_⟩
             have e85 : a.tmps[85]? = some (.pointer (some ⟨Br, 1, none⟩)) := by rw [ha]; exact (putSel_off rfl).trans rfl
             replace ha := am ha
             have HB := am Q_HB
             have SZ := am Q_SZ
             have BR := am (Q_BR (hoff 42 (by kernel_rfl)))
             have HM := am Q_HM
             have A1 := am (Q_A1 (hoff 17 (by kernel_rfl)))
             have A2 := am (Q_A2 (hoff 25 (by kernel_rfl)))
             have A3 := am (Q_A3 (hoff 39 (by kernel_rfl)))
             have hv_ : w'.cell? ⟨Br, 1, none⟩ = some (.slice (some ⟨b1, 0, none⟩) n c1) := blk_cell BR.out 1
             refine value_ (w1 := w') (v := .slice (some ⟨b1, 0, none⟩) n c1) (by rfl) rfl ?_ ?_
             ·go_simp
              (try simp only [i64_w])
              try rfl
             refine hK.out _ _ ⟨g9_, g16_, g24_, g38_, u0_, u1_, u2_, u3_, m9_, m16_, m24_, m38_, (by rw [ha.out]; exact putSel_upk 4 hb_ rfl rfl rfl), Q_HB, Q_SZ, Q_BO, Q_BR, fun h0_ _ => absurd ((hoff 42 (by kernel_rfl)).symm.trans h0_) (by decide), fun h0_ _ => absurd ((hoff 45 (by kernel_rfl)).symm.trans h0_) (by decide), fun h0_ _ => absurd ((hoff 48 (by kernel_rfl)).symm.trans h0_) (by decide), fun h0_ => absurd ((hoff 51 (by kernel_rfl)).symm.trans h0_) (by decide), Q_HM, Q_A0, Q_U0, Q_E0, Q_L0, Q_A1, fun h0_ => absurd ((hoff 17 (by kernel_rfl)).symm.trans h0_) (by decide), fun h0_ => absurd ((hoff 17 (by kernel_rfl)).symm.trans h0_) (by decide), Q_L1, Q_A2, fun h0_ => absurd ((hoff 25 (by kernel_rfl)).symm.trans h0_) (by decide), fun h0_ => absurd ((hoff 25 (by kernel_rfl)).symm.trans h0_) (by decide), Q_L2, Q_A3, fun h0_ => absurd ((hoff 39 (by kernel_rfl)).symm.trans h0_) (by decide), fun h0_ => absurd ((hoff 39 (by kernel_rfl)).symm.trans h0_) (by decide), Q_L3, fun h0_ => absurd ((hoff 39 (by kernel_rfl)).symm.trans h0_) (by decide), Q_X9_, Q_X16_, Q_X24_, Q_X38_⟩
            refine steps_cons ?_ ?_
            ·rintro b a w' ⟨g9_, g16_, g24_, g38_, u0_, u1_, u2_, u3_, m9_, m16_, m24_, m38_, ha, Q_HB, Q_SZ, Q_BO, Q_BR, Q_BRb, Q_BRc, Q_BRd, Q_BRe, Q_HM, Q_A0, Q_U0, Q_E0, Q_L0, Q_A1, Q_U1, Q_E1, Q_L1, Q_A2, Q_U2, Q_E2, Q_L2, Q_A3, Q_U3, Q_E3, Q_L3, Q_N13, Q_X9_, Q_X16_, Q_X24_, Q_X38_⟩ hb_ hon hoff
             refine ⟨_, rfl, fun K hK => ?_⟩
             have e87 : a.tmps[87]? = some (.int .i64 (k : Int)) := by rw [ha]; exact (putSel_off rfl).trans rfl
             replace ha := am ha
             have HB := am Q_HB
             have SZ := am Q_SZ
             have BR := am (Q_BR (hoff 42 (by kernel_rfl)))
             have HM := am Q_HM
             have A1 := am (Q_A1 (hoff 17 (by kernel_rfl)))
             have A2 := am (Q_A2 (hoff 25 (by kernel_rfl)))
             have A3 := am (Q_A3 (hoff 39 (by kernel_rfl)))
             refine value_ (w1 := ?_) (v := ?_) (by rfl) rfl ?_ ?_
             rotate_left 2
             ·go_simp
              constructor
              ·rfl
              ·rfl
             refine hK.out _ _ ⟨g9_, w'.heap.size, g24_, g38_, u0_, u1_, u2_, u3_, m9_, (.slice (some ⟨w'.heap.size, 0, none⟩) 1 1), m24_, m38_, (by rw [ha.out]; exact putSel_upk 5 hb_ rfl rfl rfl), below_alloc HB.out _, Nat.le_trans SZ.out (Below.size (below_alloc (Below.refl _ w') _)), fun h0_ => ⟨blk_alloc (Q_BO h0_).1 _, (Q_BO h0_).2⟩, fun _ => blk_alloc BR.out _, fun h0_ _ => absurd ((hoff 42 (by kernel_rfl)).symm.trans h0_) (by decide), fun h0_ _ => absurd ((hoff 45 (by kernel_rfl)).symm.trans h0_) (by decide), fun h0_ _ => absurd ((hoff 48 (by kernel_rfl)).symm.trans h0_) (by decide), fun h0_ => absurd ((hoff 51 (by kernel_rfl)).symm.trans h0_) (by decide), holds_below HM.out (below_alloc (Below.refl _ _) _), fun h0_ => Kd.R_alloc (Q_A0 h0_) _, fun h0_ => Kd.R_alloc (Q_U0 h0_) _, Q_E0, fun h0_ h1_ => ⟨blk_alloc (Q_L0 h0_ h1_).1 _, (Q_L0 h0_ h1_).2⟩, fun _ => Kd.R_alloc A1.out _, fun h0_ => absurd ((hoff 17 (by kernel_rfl)).symm.trans h0_) (by decide), fun h0_ => absurd ((hoff 17 (by kernel_rfl)).symm.trans h0_) (by decide), fun _ _ => ⟨blk_new _ _, SZ.out⟩, fun _ => Kd.R_alloc A2.out _, fun h0_ => absurd ((hoff 25 (by kernel_rfl)).symm.trans h0_) (by decide), fun h0_ => absurd ((hoff 25 (by kernel_rfl)).symm.trans h0_) (by decide), fun h0_ h1_ => ⟨blk_alloc (Q_L2 h0_ h1_).1 _, (Q_L2 h0_ h1_).2⟩, fun _ => Kd.R_alloc A3.out _, fun h0_ => absurd ((hoff 39 (by kernel_rfl)).symm.trans h0_) (by decide), fun h0_ => absurd ((hoff 39 (by kernel_rfl)).symm.trans h0_) (by decide), fun h0_ h1_ => ⟨blk_alloc (Q_L3 h0_ h1_).1 _, (Q_L3 h0_ h1_).2⟩, fun h0_ => absurd ((hoff 39 (by kernel_rfl)).symm.trans h0_) (by decide), Q_X9_, fun _ => rfl, Q_X24_, Q_X38_⟩
            refine steps_cons ?_ ?_
            ·rintro b a w' ⟨g9_, g16_, g24_, g38_, u0_, u1_, u2_, u3_, m9_, m16_, m24_, m38_, ha, Q_HB, Q_SZ, Q_BO, Q_BR, Q_BRb, Q_BRc, Q_BRd, Q_BRe, Q_HM, Q_A0, Q_U0, Q_E0, Q_L0, Q_A1, Q_U1, Q_E1, Q_L1, Q_A2, Q_U2, Q_E2, Q_L2, Q_A3, Q_U3, Q_E3, Q_L3, Q_N13, Q_X9_, Q_X16_, Q_X24_, Q_X38_⟩ hb_ hon hoff
             refine ⟨_, rfl, fun K hK => ?_⟩
             have e86 : a.tmps[86]? = some (.slice (some ⟨b1, 0, none⟩) n c1) := by rw [ha]; exact putSel_on (e := (14, 86, .slice (some ⟨b1, 0, none⟩) n c1)) 4 rfl rfl (hon 14 (by kernel_rfl)) rfl
             have e88 : a.tmps[88]? = some (m16_) := by rw [ha]; exact putSel_on (e := (16, 88, m16_)) 5 rfl rfl (hon 16 (by kernel_rfl)) rfl
             rw [Q_X16_ (hon 16 (by kernel_rfl))] at e88
             replace ha := am ha
             have HB := am Q_HB
             have SZ := am Q_SZ
             have BR := am (Q_BR (hoff 42 (by kernel_rfl)))
             have HM := am Q_HM
             have U0 := am (Q_U0 (hon 10 (by kernel_rfl)))
             have E0 := am (Q_E0 (hon 10 (by kernel_rfl)))
             have A1 := am (Q_A1 hb_)
             have L1 := am (Q_L1 (hon 16 (by kernel_rfl)) hb_)
             have A2 := am (Q_A2 (hoff 25 (by kernel_rfl)))
             have A3 := am (Q_A3 (hoff 39 (by kernel_rfl)))
             have hlit_ := lit_R (Kd.int .i64) (base := w.heap.size) (Nat.le_trans HWS.out L1.out.2) (cs := (#[.int .i64 (k : Int)] : Array Value).toList) L1.out.1 (x := (k : Int)) rfl
             refine Kd.R_append_rows_step (Kd.int .i64) (Rr := ((Kd.int .i64)).K w') (w0 := w) w.heap.size (by rfl) (.tmp 86) (.tmp 88) 39 3 (.int .i64 0) 8 rfl Tryd.underlying39 infoI rfl (by decide) (by decide) (.slice (some ⟨b1, 0, none⟩) n c1) xs1 [(k : Int)] (some ⟨g16_, 0, none⟩) 1 1 (fun _ => True) (fun _ => False) (eval_of e86) (eval_of e88) A1.out (Kd.R_reads' hlit_).2.2 (fun x_ cs_ h_ => h_) (fun _ hk => hk.elim) (fun _ _ => trivial) HB.out HB.out.size (by have h_ := HLN.out; omega) ?_
             intro u1 w1 ho hb hg hat
             refine hK.out _ _ ⟨g9_, g16_, g24_, g38_, u0_, u1, u2_, u3_, m9_, m16_, m24_, m38_, (by rw [ha.out]; exact putSel_upk 6 hb_ rfl rfl rfl), hb, Nat.le_trans SZ.out hg.size, fun h0_ => absurd ((hon 8 (by kernel_rfl)).symm.trans h0_) (by decide), fun _ => (hg.block Br (blk_lt BR.out) (fun e_ => HRD.out.2.1 (Option.some.inj e_))).trans BR.out, fun h0_ _ => absurd ((hoff 42 (by kernel_rfl)).symm.trans h0_) (by decide), fun h0_ _ => absurd ((hoff 45 (by kernel_rfl)).symm.trans h0_) (by decide), fun h0_ _ => absurd ((hoff 48 (by kernel_rfl)).symm.trans h0_) (by decide), fun h0_ => absurd ((hoff 51 (by kernel_rfl)).symm.trans h0_) (by decide), holds_grown HM.out hg (fun e_ => HMD.out.2.1 (Option.some.inj e_)), fun h0_ => absurd ((hon 10 (by kernel_rfl)).symm.trans h0_) (by decide), fun _ => grow_R (fun h_ => h_) U0.out hg (fun k_ hk_ => by show k_ ≠ b1; have h2_ := E0.out k_ hk_; have h3_ := HBD.out; have h4_ := HBL.out; omega), Q_E0, fun _ h1_ => absurd ((hon 10 (by kernel_rfl)).symm.trans h1_) (by decide), fun h0_ => absurd ((up_self b 17).symm.trans h0_) (by decide), fun _ => ho, fun _ => own_new (v := .slice (some ⟨b1, 0, none⟩) n c1) rfl SZ.out hat, fun _ h1_ => absurd ((up_self b 17).symm.trans h1_) (by decide), fun _ => grow_R (fun h_ => h_) A2.out hg (fun k_ hk_ => by show k_ ≠ b1; have h2_ : b2 = k_ := (by simpa [Value.ownBlock] using hk_); have h3_ := HBD.out; omega), fun h0_ => absurd ((hoff 25 (by kernel_rfl)).symm.trans h0_) (by decide), fun h0_ => absurd ((hoff 25 (by kernel_rfl)).symm.trans h0_) (by decide), fun h0_ h1_ => ⟨(hg.block g24_ (blk_lt (Q_L2 h0_ h1_).1) (fun e_ => by have e2_ : g24_ = b1 := Option.some.inj e_; have h2_ := (Q_L2 h0_ h1_).2; have h4_ := HBL.out; omega)).trans (Q_L2 h0_ h1_).1, (Q_L2 h0_ h1_).2⟩, fun _ => grow_R (fun h_ => h_) A3.out hg (fun k_ hk_ => by show k_ ≠ b1; have h2_ : b3 = k_ := (by simpa [Value.ownBlock] using hk_); have h3_ := HBD.out; omega), fun h0_ => absurd ((hoff 39 (by kernel_rfl)).symm.trans h0_) (by decide), fun h0_ => absurd ((hoff 39 (by kernel_rfl)).symm.trans h0_) (by decide), fun h0_ h1_ => ⟨(hg.block g38_ (blk_lt (Q_L3 h0_ h1_).1) (fun e_ => by have e2_ : g38_ = b1 := Option.some.inj e_; have h2_ := (Q_L3 h0_ h1_).2; have h4_ := HBL.out; omega)).trans (Q_L3 h0_ h1_).1, (Q_L3 h0_ h1_).2⟩, fun h0_ => absurd ((hoff 39 (by kernel_rfl)).symm.trans h0_) (by decide), Q_X9_, Q_X16_, Q_X24_, Q_X38_⟩
            refine steps_cons ?_ ?_
            ·rintro b a w' ⟨g9_, g16_, g24_, g38_, u0_, u1_, u2_, u3_, m9_, m16_, m24_, m38_, ha, Q_HB, Q_SZ, Q_BO, Q_BR, Q_BRb, Q_BRc, Q_BRd, Q_BRe, Q_HM, Q_A0, Q_U0, Q_E0, Q_L0, Q_A1, Q_U1, Q_E1, Q_L1, Q_A2, Q_U2, Q_E2, Q_L2, Q_A3, Q_U3, Q_E3, Q_L3, Q_N13, Q_X9_, Q_X16_, Q_X24_, Q_X38_⟩ hb_ hon hoff
             refine ⟨_, rfl, fun K hK => ?_⟩
             have e92 : a.tmps[92]? = some (.pointer (some ⟨Br, 2, none⟩)) := by rw [ha]; exact (putSel_off rfl).trans rfl
             replace ha := am ha
             have HB := am Q_HB
             have SZ := am Q_SZ
             have BR := am (Q_BR (hoff 42 (by kernel_rfl)))
             have HM := am Q_HM
             have A2 := am (Q_A2 (hoff 25 (by kernel_rfl)))
             have A3 := am (Q_A3 (hoff 39 (by kernel_rfl)))
             have hv_ : w'.cell? ⟨Br, 2, none⟩ = some (.slice (some ⟨b2, 0, none⟩) n c2) := blk_cell BR.out 2
             refine value_ (w1 := w') (v := .slice (some ⟨b2, 0, none⟩) n c2) (by rfl) rfl ?_ ?_
             ·go_simp
              (try simp only [i64_w])
              try rfl
             refine hK.out _ _ ⟨g9_, g16_, g24_, g38_, u0_, u1_, u2_, u3_, m9_, m16_, m24_, m38_, (by rw [ha.out]; exact putSel_upk 7 hb_ rfl rfl rfl), Q_HB, Q_SZ, Q_BO, Q_BR, fun h0_ _ => absurd ((hoff 42 (by kernel_rfl)).symm.trans h0_) (by decide), fun h0_ _ => absurd ((hoff 45 (by kernel_rfl)).symm.trans h0_) (by decide), fun h0_ _ => absurd ((hoff 48 (by kernel_rfl)).symm.trans h0_) (by decide), fun h0_ => absurd ((hoff 51 (by kernel_rfl)).symm.trans h0_) (by decide), Q_HM, Q_A0, Q_U0, Q_E0, Q_L0, Q_A1, Q_U1, Q_E1, Q_L1, Q_A2, fun h0_ => absurd ((hoff 25 (by kernel_rfl)).symm.trans h0_) (by decide), fun h0_ => absurd ((hoff 25 (by kernel_rfl)).symm.trans h0_) (by decide), Q_L2, Q_A3, fun h0_ => absurd ((hoff 39 (by kernel_rfl)).symm.trans h0_) (by decide), fun h0_ => absurd ((hoff 39 (by kernel_rfl)).symm.trans h0_) (by decide), Q_L3, fun h0_ => absurd ((hoff 39 (by kernel_rfl)).symm.trans h0_) (by decide), Q_X9_, Q_X16_, Q_X24_, Q_X38_⟩
            refine steps_cons ?_ ?_
            ·rintro b a w' ⟨g9_, g16_, g24_, g38_, u0_, u1_, u2_, u3_, m9_, m16_, m24_, m38_, ha, Q_HB, Q_SZ, Q_BO, Q_BR, Q_BRb, Q_BRc, Q_BRd, Q_BRe, Q_HM, Q_A0, Q_U0, Q_E0, Q_L0, Q_A1, Q_U1, Q_E1, Q_L1, Q_A2, Q_U2, Q_E2, Q_L2, Q_A3, Q_U3, Q_E3, Q_L3, Q_N13, Q_X9_, Q_X16_, Q_X24_, Q_X38_⟩ hb_ hon hoff
             refine ⟨_, rfl, fun K hK => ?_⟩
             have e95 : a.tmps[95]? = some (.int .u8 (byt i)) := by rw [ha]; exact (putSel_off rfl).trans rfl
             replace ha := am ha
             have HB := am Q_HB
             have SZ := am Q_SZ
             have BR := am (Q_BR (hoff 42 (by kernel_rfl)))
             have HM := am Q_HM
             have A2 := am (Q_A2 (hoff 25 (by kernel_rfl)))
             have A3 := am (Q_A3 (hoff 39 (by kernel_rfl)))
             refine value_ (w1 := ?_) (v := ?_) (by rfl) rfl ?_ ?_
             rotate_left 2
             ·go_simp
              constructor
              ·rfl
              ·rfl
             refine hK.out _ _ ⟨g9_, g16_, w'.heap.size, g38_, u0_, u1_, u2_, u3_, m9_, m16_, (.slice (some ⟨w'.heap.size, 0, none⟩) 1 1), m38_, (by rw [ha.out]; exact putSel_upk 8 hb_ rfl rfl rfl), below_alloc HB.out _, Nat.le_trans SZ.out (Below.size (below_alloc (Below.refl _ w') _)), fun h0_ => ⟨blk_alloc (Q_BO h0_).1 _, (Q_BO h0_).2⟩, fun _ => blk_alloc BR.out _, fun h0_ _ => absurd ((hoff 42 (by kernel_rfl)).symm.trans h0_) (by decide), fun h0_ _ => absurd ((hoff 45 (by kernel_rfl)).symm.trans h0_) (by decide), fun h0_ _ => absurd ((hoff 48 (by kernel_rfl)).symm.trans h0_) (by decide), fun h0_ => absurd ((hoff 51 (by kernel_rfl)).symm.trans h0_) (by decide), holds_below HM.out (below_alloc (Below.refl _ _) _), fun h0_ => Kd.R_alloc (Q_A0 h0_) _, fun h0_ => Kd.R_alloc (Q_U0 h0_) _, Q_E0, fun h0_ h1_ => ⟨blk_alloc (Q_L0 h0_ h1_).1 _, (Q_L0 h0_ h1_).2⟩, fun h0_ => Kd.R_alloc (Q_A1 h0_) _, fun h0_ => Kd.R_alloc (Q_U1 h0_) _, Q_E1, fun h0_ h1_ => ⟨blk_alloc (Q_L1 h0_ h1_).1 _, (Q_L1 h0_ h1_).2⟩, fun _ => Kd.R_alloc A2.out _, fun h0_ => absurd ((hoff 25 (by kernel_rfl)).symm.trans h0_) (by decide), fun h0_ => absurd ((hoff 25 (by kernel_rfl)).symm.trans h0_) (by decide), fun _ _ => ⟨blk_new _ _, SZ.out⟩, fun _ => Kd.R_alloc A3.out _, fun h0_ => absurd ((hoff 39 (by kernel_rfl)).symm.trans h0_) (by decide), fun h0_ => absurd ((hoff 39 (by kernel_rfl)).symm.trans h0_) (by decide), fun h0_ h1_ => ⟨blk_alloc (Q_L3 h0_ h1_).1 _, (Q_L3 h0_ h1_).2⟩, fun h0_ => absurd ((hoff 39 (by kernel_rfl)).symm.trans h0_) (by decide), Q_X9_, Q_X16_, fun _ => rfl, Q_X38_⟩
            refine steps_cons ?_ ?_
            ·rintro b a w' ⟨g9_, g16_, g24_, g38_, u0_, u1_, u2_, u3_, m9_, m16_, m24_, m38_, ha, Q_HB, Q_SZ, Q_BO, Q_BR, Q_BRb, Q_BRc, Q_BRd, Q_BRe, Q_HM, Q_A0, Q_U0, Q_E0, Q_L0, Q_A1, Q_U1, Q_E1, Q_L1, Q_A2, Q_U2, Q_E2, Q_L2, Q_A3, Q_U3, Q_E3, Q_L3, Q_N13, Q_X9_, Q_X16_, Q_X24_, Q_X38_⟩ hb_ hon hoff
             refine ⟨_, rfl, fun K hK => ?_⟩
             have e93 : a.tmps[93]? = some (.slice (some ⟨b2, 0, none⟩) n c2) := by rw [ha]; exact putSel_on (e := (21, 93, .slice (some ⟨b2, 0, none⟩) n c2)) 7 rfl rfl (hon 21 (by kernel_rfl)) rfl
             have e96 : a.tmps[96]? = some (m24_) := by rw [ha]; exact putSel_on (e := (24, 96, m24_)) 8 rfl rfl (hon 24 (by kernel_rfl)) rfl
             rw [Q_X24_ (hon 24 (by kernel_rfl))] at e96
             replace ha := am ha
             have HB := am Q_HB
             have SZ := am Q_SZ
             have BR := am (Q_BR (hoff 42 (by kernel_rfl)))
             have HM := am Q_HM
             have U0 := am (Q_U0 (hon 10 (by kernel_rfl)))
             have E0 := am (Q_E0 (hon 10 (by kernel_rfl)))
             have U1 := am (Q_U1 (hon 17 (by kernel_rfl)))
             have E1 := am (Q_E1 (hon 17 (by kernel_rfl)))
             have A2 := am (Q_A2 hb_)
             have L2 := am (Q_L2 (hon 24 (by kernel_rfl)) hb_)
             have A3 := am (Q_A3 (hoff 39 (by kernel_rfl)))
             have hlit_ := lit_R (Kd.int .u8) (base := w.heap.size) (Nat.le_trans HWS.out L2.out.2) (cs := (#[.int .u8 (byt i)] : Array Value).toList) L2.out.1 (x := byt i) rfl
             refine Kd.R_append_rows_step (Kd.int .u8) (Rr := ((Kd.int .u8)).K w') (w0 := w) w.heap.size (by rfl) (.tmp 93) (.tmp 96) 62 5 (.int .u8 0) 1 rfl Tryd.underlying62 infoB rfl (by decide) (by decide) (.slice (some ⟨b2, 0, none⟩) n c2) xs2 [byt i] (some ⟨g24_, 0, none⟩) 1 1 (fun _ => True) (fun _ => False) (eval_of e93) (eval_of e96) A2.out (Kd.R_reads' hlit_).2.2 (fun x_ cs_ h_ => h_) (fun _ hk => hk.elim) (fun _ _ => trivial) HB.out HB.out.size (by have h_ := HLN.out; omega) ?_
             intro u2 w1 ho hb hg hat
             refine hK.out _ _ ⟨g9_, g16_, g24_, g38_, u0_, u1_, u2, u3_, m9_, m16_, m24_, m38_, (by rw [ha.out]; exact putSel_upk 9 hb_ rfl rfl rfl), hb, Nat.le_trans SZ.out hg.size, fun h0_ => absurd ((hon 8 (by kernel_rfl)).symm.trans h0_) (by decide), fun _ => (hg.block Br (blk_lt BR.out) (fun e_ => HRD.out.2.2.1 (Option.some.inj e_))).trans BR.out, fun h0_ _ => absurd ((hoff 42 (by kernel_rfl)).symm.trans h0_) (by decide), fun h0_ _ => absurd ((hoff 45 (by kernel_rfl)).symm.trans h0_) (by decide), fun h0_ _ => absurd ((hoff 48 (by kernel_rfl)).symm.trans h0_) (by decide), fun h0_ => absurd ((hoff 51 (by kernel_rfl)).symm.trans h0_) (by decide), holds_grown HM.out hg (fun e_ => HMD.out.2.2.1 (Option.some.inj e_)), fun h0_ => absurd ((hon 10 (by kernel_rfl)).symm.trans h0_) (by decide), fun _ => grow_R (fun h_ => h_) U0.out hg (fun k_ hk_ => by show k_ ≠ b2; have h2_ := E0.out k_ hk_; have h3_ := HBD.out; have h4_ := HBL.out; omega), Q_E0, fun _ h1_ => absurd ((hon 10 (by kernel_rfl)).symm.trans h1_) (by decide), fun h0_ => absurd ((hon 17 (by kernel_rfl)).symm.trans h0_) (by decide), fun _ => grow_R (fun h_ => h_) U1.out hg (fun k_ hk_ => by show k_ ≠ b2; have h2_ := E1.out k_ hk_; have h3_ := HBD.out; have h4_ := HBL.out; omega), Q_E1, fun _ h1_ => absurd ((hon 17 (by kernel_rfl)).symm.trans h1_) (by decide), fun h0_ => absurd ((up_self b 25).symm.trans h0_) (by decide), fun _ => ho, fun _ => own_new (v := .slice (some ⟨b2, 0, none⟩) n c2) rfl SZ.out hat, fun _ h1_ => absurd ((up_self b 25).symm.trans h1_) (by decide), fun _ => grow_R (fun h_ => h_) A3.out hg (fun k_ hk_ => by show k_ ≠ b2; have h2_ : b3 = k_ := (by simpa [Value.ownBlock] using hk_); have h3_ := HBD.out; omega), fun h0_ => absurd ((hoff 39 (by kernel_rfl)).symm.trans h0_) (by decide), fun h0_ => absurd ((hoff 39 (by kernel_rfl)).symm.trans h0_) (by decide), fun h0_ h1_ => ⟨(hg.block g38_ (blk_lt (Q_L3 h0_ h1_).1) (fun e_ => by have e2_ : g38_ = b2 := Option.some.inj e_; have h2_ := (Q_L3 h0_ h1_).2; have h4_ := HBL.out; omega)).trans (Q_L3 h0_ h1_).1, (Q_L3 h0_ h1_).2⟩, fun h0_ => absurd ((hoff 39 (by kernel_rfl)).symm.trans h0_) (by decide), Q_X9_, Q_X16_, Q_X24_, Q_X38_⟩
            refine steps_cons ?_ ?_
            ·rintro b a w' ⟨g9_, g16_, g24_, g38_, u0_, u1_, u2_, u3_, m9_, m16_, m24_, m38_, ha, Q_HB, Q_SZ, Q_BO, Q_BR, Q_BRb, Q_BRc, Q_BRd, Q_BRe, Q_HM, Q_A0, Q_U0, Q_E0, Q_L0, Q_A1, Q_U1, Q_E1, Q_L1, Q_A2, Q_U2, Q_E2, Q_L2, Q_A3, Q_U3, Q_E3, Q_L3, Q_N13, Q_X9_, Q_X16_, Q_X24_, Q_X38_⟩ hb_ hon hoff
             refine ⟨_, rfl, fun K hK => ?_⟩
             have e100 : a.tmps[100]? = some (.pointer (some ⟨Br, 3, none⟩)) := by rw [ha]; exact (putSel_off rfl).trans rfl
             replace ha := am ha
             have HB := am Q_HB
             have SZ := am Q_SZ
             have BR := am (Q_BR (hoff 42 (by kernel_rfl)))
             have HM := am Q_HM
             have A3 := am (Q_A3 (hoff 39 (by kernel_rfl)))
             have hv_ : w'.cell? ⟨Br, 3, none⟩ = some (.slice (some ⟨b3, 0, none⟩) n c3) := blk_cell BR.out 3
             refine value_ (w1 := w') (v := .slice (some ⟨b3, 0, none⟩) n c3) (by rfl) rfl ?_ ?_
             ·go_simp
              (try simp only [i64_w])
              try rfl
             refine hK.out _ _ ⟨g9_, g16_, g24_, g38_, u0_, u1_, u2_, u3_, m9_, m16_, m24_, m38_, (by rw [ha.out]; exact putSel_upk 10 hb_ rfl rfl rfl), Q_HB, Q_SZ, Q_BO, Q_BR, fun h0_ _ => absurd ((hoff 42 (by kernel_rfl)).symm.trans h0_) (by decide), fun h0_ _ => absurd ((hoff 45 (by kernel_rfl)).symm.trans h0_) (by decide), fun h0_ _ => absurd ((hoff 48 (by kernel_rfl)).symm.trans h0_) (by decide), fun h0_ => absurd ((hoff 51 (by kernel_rfl)).symm.trans h0_) (by decide), Q_HM, Q_A0, Q_U0, Q_E0, Q_L0, Q_A1, Q_U1, Q_E1, Q_L1, Q_A2, Q_U2, Q_E2, Q_L2, Q_A3, fun h0_ => absurd ((hoff 39 (by kernel_rfl)).symm.trans h0_) (by decide), fun h0_ => absurd ((hoff 39 (by kernel_rfl)).symm.trans h0_) (by decide), Q_L3, fun h0_ => absurd ((hoff 39 (by kernel_rfl)).symm.trans h0_) (by decide), Q_X9_, Q_X16_, Q_X24_, Q_X38_⟩
            refine steps_cons ?_ ?_
            ·rintro b a w' ⟨g9_, g16_, g24_, g38_, u0_, u1_, u2_, u3_, m9_, m16_, m24_, m38_, ha, Q_HB, Q_SZ, Q_BO, Q_BR, Q_BRb, Q_BRc, Q_BRd, Q_BRe, Q_HM, Q_A0, Q_U0, Q_E0, Q_L0, Q_A1, Q_U1, Q_E1, Q_L1, Q_A2, Q_U2, Q_E2, Q_L2, Q_A3, Q_U3, Q_E3, Q_L3, Q_N13, Q_X9_, Q_X16_, Q_X24_, Q_X38_⟩ hb_ hon hoff
             refine ⟨_, rfl, fun K hK => ?_⟩
             have e104 : a.tmps[104]? = some (.pointer (some ⟨Br, 3, none⟩)) := by rw [ha]; exact (putSel_off rfl).trans rfl
             replace ha := am ha
             have HB := am Q_HB
             have SZ := am Q_SZ
             have BR := am (Q_BR (hoff 42 (by kernel_rfl)))
             have HM := am Q_HM
             have A3 := am (Q_A3 (hoff 39 (by kernel_rfl)))
             have hv_ : w'.cell? ⟨Br, 3, none⟩ = some (.slice (some ⟨b3, 0, none⟩) n c3) := blk_cell BR.out 3
             refine value_ (w1 := w') (v := .slice (some ⟨b3, 0, none⟩) n c3) (by rfl) rfl ?_ ?_
             ·go_simp
              (try simp only [i64_w])
              try rfl
             refine hK.out _ _ ⟨g9_, g16_, g24_, g38_, u0_, u1_, u2_, u3_, m9_, m16_, m24_, m38_, (by rw [ha.out]; exact putSel_upk 11 hb_ rfl rfl rfl), Q_HB, Q_SZ, Q_BO, Q_BR, fun h0_ _ => absurd ((hoff 42 (by kernel_rfl)).symm.trans h0_) (by decide), fun h0_ _ => absurd ((hoff 45 (by kernel_rfl)).symm.trans h0_) (by decide), fun h0_ _ => absurd ((hoff 48 (by kernel_rfl)).symm.trans h0_) (by decide), fun h0_ => absurd ((hoff 51 (by kernel_rfl)).symm.trans h0_) (by decide), Q_HM, Q_A0, Q_U0, Q_E0, Q_L0, Q_A1, Q_U1, Q_E1, Q_L1, Q_A2, Q_U2, Q_E2, Q_L2, Q_A3, fun h0_ => absurd ((hoff 39 (by kernel_rfl)).symm.trans h0_) (by decide), fun h0_ => absurd ((hoff 39 (by kernel_rfl)).symm.trans h0_) (by decide), fun h0_ _ => absurd ((hoff 38 (by kernel_rfl)).symm.trans h0_) (by decide), fun h0_ => absurd ((hoff 39 (by kernel_rfl)).symm.trans h0_) (by decide), Q_X9_, Q_X16_, Q_X24_, fun h0_ => absurd ((hoff 38 (by kernel_rfl)).symm.trans h0_) (by decide)⟩
            refine steps_cons ?_ ?_
            ·rintro b a w' ⟨g9_, g16_, g24_, g38_, u0_, u1_, u2_, u3_, m9_, m16_, m24_, m38_, ha, Q_HB, Q_SZ, Q_BO, Q_BR, Q_BRb, Q_BRc, Q_BRd, Q_BRe, Q_HM, Q_A0, Q_U0, Q_E0, Q_L0, Q_A1, Q_U1, Q_E1, Q_L1, Q_A2, Q_U2, Q_E2, Q_L2, Q_A3, Q_U3, Q_E3, Q_L3, Q_N13, Q_X9_, Q_X16_, Q_X24_, Q_X38_⟩ hb_ hon hoff
             refine ⟨_, rfl, fun K hK => ?_⟩
             have e105 : a.tmps[105]? = some (.slice (some ⟨b3, 0, none⟩) n c3) := by rw [ha]; exact putSel_on (e := (33, 105, .slice (some ⟨b3, 0, none⟩) n c3)) 11 rfl rfl (hon 33 (by kernel_rfl)) rfl
             have e106 : a.tmps[106]? = some (.int .i64 (k : Int)) := by rw [ha]; exact (putSel_off rfl).trans rfl
             replace ha := am ha
             have HB := am Q_HB
             have SZ := am Q_SZ
             have BR := am (Q_BR (hoff 42 (by kernel_rfl)))
             have HM := am Q_HM
             have A3 := am (Q_A3 (hoff 39 (by kernel_rfl)))
             have hk_ : (k : Int) < (n : Int) := by omega
             refine value_ (w1 := w') (v := .pointer (some ⟨b3, k, none⟩)) (by rfl) rfl ?_ ?_
             ·go_simp
              (try simp only [i64_w])
              try rfl
             refine hK.out _ _ ⟨g9_, g16_, g24_, g38_, u0_, u1_, u2_, u3_, m9_, m16_, m24_, m38_, (by rw [ha.out]; exact putSel_upk 12 hb_ rfl rfl rfl), Q_HB, Q_SZ, Q_BO, Q_BR, fun h0_ _ => absurd ((hoff 42 (by kernel_rfl)).symm.trans h0_) (by decide), fun h0_ _ => absurd ((hoff 45 (by kernel_rfl)).symm.trans h0_) (by decide), fun h0_ _ => absurd ((hoff 48 (by kernel_rfl)).symm.trans h0_) (by decide), fun h0_ => absurd ((hoff 51 (by kernel_rfl)).symm.trans h0_) (by decide), Q_HM, Q_A0, Q_U0, Q_E0, Q_L0, Q_A1, Q_U1, Q_E1, Q_L1, Q_A2, Q_U2, Q_E2, Q_L2, Q_A3, fun h0_ => absurd ((hoff 39 (by kernel_rfl)).symm.trans h0_) (by decide), fun h0_ => absurd ((hoff 39 (by kernel_rfl)).symm.trans h0_) (by decide), fun h0_ _ => absurd ((hoff 38 (by kernel_rfl)).symm.trans h0_) (by decide), fun h0_ => absurd ((hoff 39 (by kernel_rfl)).symm.trans h0_) (by decide), Q_X9_, Q_X16_, Q_X24_, fun h0_ => absurd ((hoff 38 (by kernel_rfl)).symm.trans h0_) (by decide)⟩
            refine steps_cons ?_ ?_
            ·rintro b a w' ⟨g9_, g16_, g24_, g38_, u0_, u1_, u2_, u3_, m9_, m16_, m24_, m38_, ha, Q_HB, Q_SZ, Q_BO, Q_BR, Q_BRb, Q_BRc, Q_BRd, Q_BRe, Q_HM, Q_A0, Q_U0, Q_E0, Q_L0, Q_A1, Q_U1, Q_E1, Q_L1, Q_A2, Q_U2, Q_E2, Q_L2, Q_A3, Q_U3, Q_E3, Q_L3, Q_N13, Q_X9_, Q_X16_, Q_X24_, Q_X38_⟩ hb_ hon hoff
             refine ⟨_, rfl, fun K hK => ?_⟩
             have e107 : a.tmps[107]? = some (.pointer (some ⟨b3, k, none⟩)) := by rw [ha]; exact putSel_on (e := (35, 107, .pointer (some ⟨b3, k, none⟩))) 12 rfl rfl (hon 35 (by kernel_rfl)) rfl
             replace ha := am ha
             have HB := am Q_HB
             have SZ := am Q_SZ
             have BR := am (Q_BR (hoff 42 (by kernel_rfl)))
             have HM := am Q_HM
             have A3 := am (Q_A3 (hoff 39 (by kernel_rfl)))
             have hc_ := int_cell A3.out k (fk : Int) HF.out
             refine value_ (w1 := w') (v := .int .i64 (fk : Int)) (by rfl) rfl ?_ ?_
             ·go_simp
              (try simp only [i64_w])
              try rfl
             refine hK.out _ _ ⟨g9_, g16_, g24_, g38_, u0_, u1_, u2_, u3_, m9_, m16_, m24_, m38_, (by rw [ha.out]; exact putSel_upk 13 hb_ rfl rfl rfl), Q_HB, Q_SZ, Q_BO, Q_BR, fun h0_ _ => absurd ((hoff 42 (by kernel_rfl)).symm.trans h0_) (by decide), fun h0_ _ => absurd ((hoff 45 (by kernel_rfl)).symm.trans h0_) (by decide), fun h0_ _ => absurd ((hoff 48 (by kernel_rfl)).symm.trans h0_) (by decide), fun h0_ => absurd ((hoff 51 (by kernel_rfl)).symm.trans h0_) (by decide), Q_HM, Q_A0, Q_U0, Q_E0, Q_L0, Q_A1, Q_U1, Q_E1, Q_L1, Q_A2, Q_U2, Q_E2, Q_L2, Q_A3, fun h0_ => absurd ((hoff 39 (by kernel_rfl)).symm.trans h0_) (by decide), fun h0_ => absurd ((hoff 39 (by kernel_rfl)).symm.trans h0_) (by decide), fun h0_ _ => absurd ((hoff 38 (by kernel_rfl)).symm.trans h0_) (by decide), fun h0_ => absurd ((hoff 39 (by kernel_rfl)).symm.trans h0_) (by decide), Q_X9_, Q_X16_, Q_X24_, fun h0_ => absurd ((hoff 38 (by kernel_rfl)).symm.trans h0_) (by decide)⟩
            refine steps_cons ?_ ?_
            ·rintro b a w' ⟨g9_, g16_, g24_, g38_, u0_, u1_, u2_, u3_, m9_, m16_, m24_, m38_, ha, Q_HB, Q_SZ, Q_BO, Q_BR, Q_BRb, Q_BRc, Q_BRd, Q_BRe, Q_HM, Q_A0, Q_U0, Q_E0, Q_L0, Q_A1, Q_U1, Q_E1, Q_L1, Q_A2, Q_U2, Q_E2, Q_L2, Q_A3, Q_U3, Q_E3, Q_L3, Q_N13, Q_X9_, Q_X16_, Q_X24_, Q_X38_⟩ hb_ hon hoff
             refine ⟨_, rfl, fun K hK => ?_⟩
             have e108 : a.tmps[108]? = some (.int .i64 (fk : Int)) := by rw [ha]; exact putSel_on (e := (36, 108, .int .i64 (fk : Int))) 13 rfl rfl (hon 36 (by kernel_rfl)) rfl
             replace ha := am ha
             have HB := am Q_HB
             have SZ := am Q_SZ
             have BR := am (Q_BR (hoff 42 (by kernel_rfl)))
             have HM := am Q_HM
             have A3 := am (Q_A3 (hoff 39 (by kernel_rfl)))
             have hw_ : IntKind.i64.wrap ((fk : Int) + 1) = (fk : Int) + 1 := IntWalk.i64_in _ (by omega)
             refine value_ (w1 := w') (v := .int .i64 ((fk : Int) + 1)) (by rfl) rfl ?_ ?_
             ·go_simp
              (try simp only [i64_w])
              try rfl
             refine hK.out _ _ ⟨g9_, g16_, g24_, g38_, u0_, u1_, u2_, u3_, m9_, m16_, m24_, m38_, (by rw [ha.out]; exact putSel_upk 14 hb_ rfl rfl rfl), Q_HB, Q_SZ, Q_BO, Q_BR, fun h0_ _ => absurd ((hoff 42 (by kernel_rfl)).symm.trans h0_) (by decide), fun h0_ _ => absurd ((hoff 45 (by kernel_rfl)).symm.trans h0_) (by decide), fun h0_ _ => absurd ((hoff 48 (by kernel_rfl)).symm.trans h0_) (by decide), fun h0_ => absurd ((hoff 51 (by kernel_rfl)).symm.trans h0_) (by decide), Q_HM, Q_A0, Q_U0, Q_E0, Q_L0, Q_A1, Q_U1, Q_E1, Q_L1, Q_A2, Q_U2, Q_E2, Q_L2, Q_A3, fun h0_ => absurd ((hoff 39 (by kernel_rfl)).symm.trans h0_) (by decide), fun h0_ => absurd ((hoff 39 (by kernel_rfl)).symm.trans h0_) (by decide), fun h0_ _ => absurd ((hoff 38 (by kernel_rfl)).symm.trans h0_) (by decide), fun h0_ => absurd ((hoff 39 (by kernel_rfl)).symm.trans h0_) (by decide), Q_X9_, Q_X16_, Q_X24_, fun h0_ => absurd ((hoff 38 (by kernel_rfl)).symm.trans h0_) (by decide)⟩
            refine steps_cons ?_ ?_
            ·rintro b a w' ⟨g9_, g16_, g24_, g38_, u0_, u1_, u2_, u3_, m9_, m16_, m24_, m38_, ha, Q_HB, Q_SZ, Q_BO, Q_BR, Q_BRb, Q_BRc, Q_BRd, Q_BRe, Q_HM, Q_A0, Q_U0, Q_E0, Q_L0, Q_A1, Q_U1, Q_E1, Q_L1, Q_A2, Q_U2, Q_E2, Q_L2, Q_A3, Q_U3, Q_E3, Q_L3, Q_N13, Q_X9_, Q_X16_, Q_X24_, Q_X38_⟩ hb_ hon hoff
             refine ⟨_, rfl, fun K hK => ?_⟩
             have e109 : a.tmps[109]? = some (.int .i64 ((fk : Int) + 1)) := by rw [ha]; exact putSel_on (e := (37, 109, .int .i64 ((fk : Int) + 1))) 14 rfl rfl (hon 37 (by kernel_rfl)) rfl
             replace ha := am ha
             have HB := am Q_HB
             have SZ := am Q_SZ
             have BR := am (Q_BR (hoff 42 (by kernel_rfl)))
             have HM := am Q_HM
             have A3 := am (Q_A3 (hoff 39 (by kernel_rfl)))
             refine value_ (w1 := ?_) (v := ?_) (by rfl) rfl ?_ ?_
             rotate_left 2
             ·go_simp
              constructor
              ·rfl
              ·rfl
             refine hK.out _ _ ⟨g9_, g16_, g24_, w'.heap.size, u0_, u1_, u2_, u3_, m9_, m16_, m24_, (.slice (some ⟨w'.heap.size, 0, none⟩) 1 1), (by rw [ha.out]; exact putSel_upk 15 hb_ rfl rfl rfl), below_alloc HB.out _, Nat.le_trans SZ.out (Below.size (below_alloc (Below.refl _ w') _)), fun h0_ => ⟨blk_alloc (Q_BO h0_).1 _, (Q_BO h0_).2⟩, fun _ => blk_alloc BR.out _, fun h0_ _ => absurd ((hoff 42 (by kernel_rfl)).symm.trans h0_) (by decide), fun h0_ _ => absurd ((hoff 45 (by kernel_rfl)).symm.trans h0_) (by decide), fun h0_ _ => absurd ((hoff 48 (by kernel_rfl)).symm.trans h0_) (by decide), fun h0_ => absurd ((hoff 51 (by kernel_rfl)).symm.trans h0_) (by decide), holds_below HM.out (below_alloc (Below.refl _ _) _), fun h0_ => Kd.R_alloc (Q_A0 h0_) _, fun h0_ => Kd.R_alloc (Q_U0 h0_) _, Q_E0, fun h0_ h1_ => ⟨blk_alloc (Q_L0 h0_ h1_).1 _, (Q_L0 h0_ h1_).2⟩, fun h0_ => Kd.R_alloc (Q_A1 h0_) _, fun h0_ => Kd.R_alloc (Q_U1 h0_) _, Q_E1, fun h0_ h1_ => ⟨blk_alloc (Q_L1 h0_ h1_).1 _, (Q_L1 h0_ h1_).2⟩, fun h0_ => Kd.R_alloc (Q_A2 h0_) _, fun h0_ => Kd.R_alloc (Q_U2 h0_) _, Q_E2, fun h0_ h1_ => ⟨blk_alloc (Q_L2 h0_ h1_).1 _, (Q_L2 h0_ h1_).2⟩, fun _ => Kd.R_alloc A3.out _, fun h0_ => absurd ((hoff 39 (by kernel_rfl)).symm.trans h0_) (by decide), fun h0_ => absurd ((hoff 39 (by kernel_rfl)).symm.trans h0_) (by decide), fun _ _ => ⟨blk_new _ _, SZ.out⟩, fun h0_ => absurd ((hoff 39 (by kernel_rfl)).symm.trans h0_) (by decide), Q_X9_, Q_X16_, Q_X24_, fun _ => rfl⟩
            refine steps_cons ?_ ?_
            ·rintro b a w' ⟨g9_, g16_, g24_, g38_, u0_, u1_, u2_, u3_, m9_, m16_, m24_, m38_, ha, Q_HB, Q_SZ, Q_BO, Q_BR, Q_BRb, Q_BRc, Q_BRd, Q_BRe, Q_HM, Q_A0, Q_U0, Q_E0, Q_L0, Q_A1, Q_U1, Q_E1, Q_L1, Q_A2, Q_U2, Q_E2, Q_L2, Q_A3, Q_U3, Q_E3, Q_L3, Q_N13, Q_X9_, Q_X16_, Q_X24_, Q_X38_⟩ hb_ hon hoff
             refine ⟨_, rfl, fun K hK => ?_⟩
             have e101 : a.tmps[101]? = some (.slice (some ⟨b3, 0, none⟩) n c3) := by rw [ha]; exact putSel_on (e := (29, 101, .slice (some ⟨b3, 0, none⟩) n c3)) 10 rfl rfl (hon 29 (by kernel_rfl)) rfl
             have e110 : a.tmps[110]? = some (m38_) := by rw [ha]; exact putSel_on (e := (38, 110, m38_)) 15 rfl rfl (hon 38 (by kernel_rfl)) rfl
             rw [Q_X38_ (hon 38 (by kernel_rfl))] at e110
             replace ha := am ha
             have HB := am Q_HB
             have SZ := am Q_SZ
             have BR := am (Q_BR (hoff 42 (by kernel_rfl)))
             have HM := am Q_HM
             have U0 := am (Q_U0 (hon 10 (by kernel_rfl)))
             have E0 := am (Q_E0 (hon 10 (by kernel_rfl)))
             have U1 := am (Q_U1 (hon 17 (by kernel_rfl)))
             have E1 := am (Q_E1 (hon 17 (by kernel_rfl)))
             have U2 := am (Q_U2 (hon 25 (by kernel_rfl)))
             have E2 := am (Q_E2 (hon 25 (by kernel_rfl)))
             have A3 := am (Q_A3 hb_)
             have L3 := am (Q_L3 (hon 38 (by kernel_rfl)) hb_)
             have hlit_ := lit_R (Kd.int .i64) (base := w.heap.size) (Nat.le_trans HWS.out L3.out.2) (cs := (#[.int .i64 ((fk : Int) + 1)] : Array Value).toList) L3.out.1 (x := (fk : Int) + 1) rfl
             refine Kd.R_append_rows_step (Kd.int .i64) (Rr := ((Kd.int .i64)).K w') (w0 := w) w.heap.size (by rfl) (.tmp 101) (.tmp 110) 39 3 (.int .i64 0) 8 rfl Tryd.underlying39 infoI rfl (by decide) (by decide) (.slice (some ⟨b3, 0, none⟩) n c3) xs3 [(fk : Int) + 1] (some ⟨g38_, 0, none⟩) 1 1 (fun _ => True) (fun _ => False) (eval_of e101) (eval_of e110) A3.out (Kd.R_reads' hlit_).2.2 (fun x_ cs_ h_ => h_) (fun _ hk => hk.elim) (fun _ _ => trivial) HB.out HB.out.size (by have h_ := HLN.out; omega) ?_
             intro u3 w1 ho hb hg hat
             refine hK.out _ _ ⟨g9_, g16_, g24_, g38_, u0_, u1_, u2_, u3, m9_, m16_, m24_, m38_, (by rw [ha.out]; exact putSel_upk 16 hb_ rfl rfl rfl), hb, Nat.le_trans SZ.out hg.size, fun h0_ => absurd ((hon 8 (by kernel_rfl)).symm.trans h0_) (by decide), fun _ => (hg.block Br (blk_lt BR.out) (fun e_ => HRD.out.2.2.2 (Option.some.inj e_))).trans BR.out, fun h0_ _ => absurd ((hoff 42 (by kernel_rfl)).symm.trans h0_) (by decide), fun h0_ _ => absurd ((hoff 45 (by kernel_rfl)).symm.trans h0_) (by decide), fun h0_ _ => absurd ((hoff 48 (by kernel_rfl)).symm.trans h0_) (by decide), fun h0_ => absurd ((hoff 51 (by kernel_rfl)).symm.trans h0_) (by decide), holds_grown HM.out hg (fun e_ => HMD.out.2.2.2 (Option.some.inj e_)), fun h0_ => absurd ((hon 10 (by kernel_rfl)).symm.trans h0_) (by decide), fun _ => grow_R (fun h_ => h_) U0.out hg (fun k_ hk_ => by show k_ ≠ b3; have h2_ := E0.out k_ hk_; have h3_ := HBD.out; have h4_ := HBL.out; omega), Q_E0, fun _ h1_ => absurd ((hon 10 (by kernel_rfl)).symm.trans h1_) (by decide), fun h0_ => absurd ((hon 17 (by kernel_rfl)).symm.trans h0_) (by decide), fun _ => grow_R (fun h_ => h_) U1.out hg (fun k_ hk_ => by show k_ ≠ b3; have h2_ := E1.out k_ hk_; have h3_ := HBD.out; have h4_ := HBL.out; omega), Q_E1, fun _ h1_ => absurd ((hon 17 (by kernel_rfl)).symm.trans h1_) (by decide), fun h0_ => absurd ((hon 25 (by kernel_rfl)).symm.trans h0_) (by decide), fun _ => grow_R (fun h_ => h_) U2.out hg (fun k_ hk_ => by show k_ ≠ b3; have h2_ := E2.out k_ hk_; have h3_ := HBD.out; have h4_ := HBL.out; omega), Q_E2, fun _ h1_ => absurd ((hon 25 (by kernel_rfl)).symm.trans h1_) (by decide), fun h0_ => absurd ((up_self b 39).symm.trans h0_) (by decide), fun _ => ho, fun _ => own_new (v := .slice (some ⟨b3, 0, none⟩) n c3) rfl SZ.out hat, fun _ h1_ => absurd ((up_self b 39).symm.trans h1_) (by decide), fun _ => own_apart3 (v3 := .slice (some ⟨b3, 0, none⟩) n c3) E1.out (fun k_ hk_ => Kd.R_lt U1.out k_ hk_) rfl HNE.out HBL.out.2.2.2 hat, Q_X9_, Q_X16_, Q_X24_, Q_X38_⟩
            refine steps_cons ?_ ?_
            ·rintro b a w' ⟨g9_, g16_, g24_, g38_, u0_, u1_, u2_, u3_, m9_, m16_, m24_, m38_, ha, Q_HB, Q_SZ, Q_BO, Q_BR, Q_BRb, Q_BRc, Q_BRd, Q_BRe, Q_HM, Q_A0, Q_U0, Q_E0, Q_L0, Q_A1, Q_U1, Q_E1, Q_L1, Q_A2, Q_U2, Q_E2, Q_L2, Q_A3, Q_U3, Q_E3, Q_L3, Q_N13, Q_X9_, Q_X16_, Q_X24_, Q_X38_⟩ hb_ hon hoff
             refine ⟨_, rfl, fun K hK => ?_⟩
             have e72 : a.tmps[72]? = some (.pointer (some ⟨Br, 0, none⟩)) := by rw [ha]; exact (putSel_off rfl).trans rfl
             replace ha := am ha
             have HB := am Q_HB
             have SZ := am Q_SZ
             have BR := am (Q_BR (hoff 42 (by kernel_rfl)))
             have HM := am Q_HM
             have U0 := am (Q_U0 (hon 10 (by kernel_rfl)))
             have E0 := am (Q_E0 (hon 10 (by kernel_rfl)))
             have U1 := am (Q_U1 (hon 17 (by kernel_rfl)))
             have E1 := am (Q_E1 (hon 17 (by kernel_rfl)))
             have U2 := am (Q_U2 (hon 25 (by kernel_rfl)))
             have E2 := am (Q_E2 (hon 25 (by kernel_rfl)))
             have U3 := am (Q_U3 (hon 39 (by kernel_rfl)))
             have E3 := am (Q_E3 (hon 39 (by kernel_rfl)))
             have N13 := am (Q_N13 (hon 39 (by kernel_rfl)))
             refine value_ (w1 := w') (v := .pointer (some ⟨Br, 0, none⟩)) (by rfl) rfl ?_ ?_
             ·go_simp
              (try simp only [i64_w])
              try rfl
             refine hK.out _ _ ⟨g9_, g16_, g24_, g38_, u0_, u1_, u2_, u3_, m9_, m16_, m24_, m38_, (by rw [ha.out]; exact putSel_upk 17 hb_ rfl rfl rfl), Q_HB, Q_SZ, fun h0_ => absurd ((hon 8 (by kernel_rfl)).symm.trans h0_) (by decide), Q_BR, fun h0_ _ => absurd ((hoff 42 (by kernel_rfl)).symm.trans h0_) (by decide), fun h0_ _ => absurd ((hoff 45 (by kernel_rfl)).symm.trans h0_) (by decide), fun h0_ _ => absurd ((hoff 48 (by kernel_rfl)).symm.trans h0_) (by decide), fun h0_ => absurd ((hoff 51 (by kernel_rfl)).symm.trans h0_) (by decide), Q_HM, fun h0_ => absurd ((hon 10 (by kernel_rfl)).symm.trans h0_) (by decide), Q_U0, Q_E0, fun _ h1_ => absurd ((hon 10 (by kernel_rfl)).symm.trans h1_) (by decide), fun h0_ => absurd ((hon 17 (by kernel_rfl)).symm.trans h0_) (by decide), Q_U1, Q_E1, fun _ h1_ => absurd ((hon 17 (by kernel_rfl)).symm.trans h1_) (by decide), fun h0_ => absurd ((hon 25 (by kernel_rfl)).symm.trans h0_) (by decide), Q_U2, Q_E2, fun _ h1_ => absurd ((hon 25 (by kernel_rfl)).symm.trans h1_) (by decide), fun h0_ => absurd ((hon 39 (by kernel_rfl)).symm.trans h0_) (by decide), Q_U3, Q_E3, fun _ h1_ => absurd ((hon 39 (by kernel_rfl)).symm.trans h1_) (by decide), Q_N13, Q_X9_, Q_X16_, Q_X24_, Q_X38_⟩
            refine steps_cons ?_ ?_
            ·rintro b a w' ⟨g9_, g16_, g24_, g38_, u0_, u1_, u2_, u3_, m9_, m16_, m24_, m38_, ha, Q_HB, Q_SZ, Q_BO, Q_BR, Q_BRb, Q_BRc, Q_BRd, Q_BRe, Q_HM, Q_A0, Q_U0, Q_E0, Q_L0, Q_A1, Q_U1, Q_E1, Q_L1, Q_A2, Q_U2, Q_E2, Q_L2, Q_A3, Q_U3, Q_E3, Q_L3, Q_N13, Q_X9_, Q_X16_, Q_X24_, Q_X38_⟩ hb_ hon hoff
             refine ⟨_, rfl, fun K hK => ?_⟩
             have e112 : a.tmps[112]? = some (.pointer (some ⟨Br, 0, none⟩)) := by rw [ha]; exact putSel_on (e := (40, 112, .pointer (some ⟨Br, 0, none⟩))) 17 rfl rfl (hon 40 (by kernel_rfl)) rfl
             replace ha := am ha
             have HB := am Q_HB
             have SZ := am Q_SZ
             have BR := am (Q_BR (hoff 42 (by kernel_rfl)))
             have HM := am Q_HM
             have U0 := am (Q_U0 (hon 10 (by kernel_rfl)))
             have E0 := am (Q_E0 (hon 10 (by kernel_rfl)))
             have U1 := am (Q_U1 (hon 17 (by kernel_rfl)))
             have E1 := am (Q_E1 (hon 17 (by kernel_rfl)))
             have U2 := am (Q_U2 (hon 25 (by kernel_rfl)))
             have E2 := am (Q_E2 (hon 25 (by kernel_rfl)))
             have U3 := am (Q_U3 (hon 39 (by kernel_rfl)))
             have E3 := am (Q_E3 (hon 39 (by kernel_rfl)))
             have N13 := am (Q_N13 (hon 39 (by kernel_rfl)))
             refine value_ (w1 := w') (v := .pointer (some ⟨Br, 0, none⟩)) (by rfl) rfl ?_ ?_
             ·go_simp
              (try simp only [i64_w])
              try rfl
             refine hK.out _ _ ⟨g9_, g16_, g24_, g38_, u0_, u1_, u2_, u3_, m9_, m16_, m24_, m38_, (by rw [ha.out]; exact putSel_upk 18 hb_ rfl rfl rfl), Q_HB, Q_SZ, fun h0_ => absurd ((hon 8 (by kernel_rfl)).symm.trans h0_) (by decide), Q_BR, fun h0_ _ => absurd ((hoff 42 (by kernel_rfl)).symm.trans h0_) (by decide), fun h0_ _ => absurd ((hoff 45 (by kernel_rfl)).symm.trans h0_) (by decide), fun h0_ _ => absurd ((hoff 48 (by kernel_rfl)).symm.trans h0_) (by decide), fun h0_ => absurd ((hoff 51 (by kernel_rfl)).symm.trans h0_) (by decide), Q_HM, fun h0_ => absurd ((hon 10 (by kernel_rfl)).symm.trans h0_) (by decide), Q_U0, Q_E0, fun _ h1_ => absurd ((hon 10 (by kernel_rfl)).symm.trans h1_) (by decide), fun h0_ => absurd ((hon 17 (by kernel_rfl)).symm.trans h0_) (by decide), Q_U1, Q_E1, fun _ h1_ => absurd ((hon 17 (by kernel_rfl)).symm.trans h1_) (by decide), fun h0_ => absurd ((hon 25 (by kernel_rfl)).symm.trans h0_) (by decide), Q_U2, Q_E2, fun _ h1_ => absurd ((hon 25 (by kernel_rfl)).symm.trans h1_) (by decide), fun h0_ => absurd ((hon 39 (by kernel_rfl)).symm.trans h0_) (by decide), Q_U3, Q_E3, fun _ h1_ => absurd ((hon 39 (by kernel_rfl)).symm.trans h1_) (by decide), Q_N13, Q_X9_, Q_X16_, Q_X24_, Q_X38_⟩
            refine steps_cons ?_ ?_
            ·rintro b a w' ⟨g9_, g16_, g24_, g38_, u0_, u1_, u2_, u3_, m9_, m16_, m24_, m38_, ha, Q_HB, Q_SZ, Q_BO, Q_BR, Q_BRb, Q_BRc, Q_BRd, Q_BRe, Q_HM, Q_A0, Q_U0, Q_E0, Q_L0, Q_A1, Q_U1, Q_E1, Q_L1, Q_A2, Q_U2, Q_E2, Q_L2, Q_A3, Q_U3, Q_E3, Q_L3, Q_N13, Q_X9_, Q_X16_, Q_X24_, Q_X38_⟩ hb_ hon hoff
             refine ⟨_, rfl, fun K hK => ?_⟩
             have e113 : a.tmps[113]? = some (.pointer (some ⟨Br, 0, none⟩)) := by rw [ha]; exact putSel_on (e := (41, 113, .pointer (some ⟨Br, 0, none⟩))) 18 rfl rfl (hon 41 (by kernel_rfl)) rfl
             have e82 : a.tmps[82]? = some (u0_) := by rw [ha]; exact putSel_on (e := (10, 82, u0_)) 3 rfl rfl (hon 10 (by kernel_rfl)) rfl
             replace ha := am ha
             have HB := am Q_HB
             have SZ := am Q_SZ
             have BR := am (Q_BR hb_)
             have HM := am Q_HM
             have U0 := am (Q_U0 (hon 10 (by kernel_rfl)))
             have E0 := am (Q_E0 (hon 10 (by kernel_rfl)))
             have U1 := am (Q_U1 (hon 17 (by kernel_rfl)))
             have E1 := am (Q_E1 (hon 17 (by kernel_rfl)))
             have U2 := am (Q_U2 (hon 25 (by kernel_rfl)))
             have E2 := am (Q_E2 (hon 25 (by kernel_rfl)))
             have U3 := am (Q_U3 (hon 39 (by kernel_rfl)))
             have E3 := am (Q_E3 (hon 39 (by kernel_rfl)))
             have N13 := am (Q_N13 (hon 39 (by kernel_rfl)))
             obtain ⟨A_, cc_, hu_⟩ := Kd.R_slice U0.out
             rw [show (xs0 ++ [sSt u]).length = xs0.length + 1 from by simp] at hu_
             rw [hu_] at e82
             have z_ : w'.cell? ⟨Br, 0, none⟩ = some (.slice (some ⟨b0, 0, none⟩) n c0) := blk_cell BR.out 0
             have zf_ := blk_frozen BR.out 0
             refine skip_ (w1 := ?_) (by rfl) rfl ?_ ?_
             rotate_left
             ·go_simp
              rfl
             refine hK.out _ _ ⟨g9_, g16_, g24_, g38_, u0_, u1_, u2_, u3_, m9_, m16_, m24_, m38_, (by rw [ha.out]; exact putSel_none (v := undef) rfl), below_set HB.out HBG.out.1, by simpa using SZ.out, fun h0_ => absurd ((hon 8 (by kernel_rfl)).symm.trans h0_) (by decide), fun h0_ => absurd ((up_self b 42).symm.trans h0_) (by decide), fun _ _ => by rw [hu_]; exact blk_put BR.out 0 _ rfl, fun h0_ _ => absurd ((hoff 45 (by kernel_rfl)).symm.trans h0_) (by decide), fun h0_ _ => absurd ((hoff 48 (by kernel_rfl)).symm.trans h0_) (by decide), fun h0_ => absurd ((hoff 51 (by kernel_rfl)).symm.trans h0_) (by decide), holds_of_block HM.out (Below.heap_setCell _ _ _ M HMB.out), fun h0_ => absurd ((hon 10 (by kernel_rfl)).symm.trans h0_) (by decide), fun _ => Kd.R_mono (Kd.R_far (p := ⟨Br, 0, none⟩) (Kd.R_types U0.out BR.out (by decide)) (fun _ hk => hk.2) _) (fun _ _ => trivial), Q_E0, fun _ h1_ => absurd ((hon 10 (by kernel_rfl)).symm.trans h1_) (by decide), fun h0_ => absurd ((hon 17 (by kernel_rfl)).symm.trans h0_) (by decide), fun _ => Kd.R_mono (Kd.R_far (p := ⟨Br, 0, none⟩) (Kd.R_types U1.out BR.out (by decide)) (fun _ hk => hk.2) _) (fun _ _ => trivial), Q_E1, fun _ h1_ => absurd ((hon 17 (by kernel_rfl)).symm.trans h1_) (by decide), fun h0_ => absurd ((hon 25 (by kernel_rfl)).symm.trans h0_) (by decide), fun _ => Kd.R_mono (Kd.R_far (p := ⟨Br, 0, none⟩) (Kd.R_types U2.out BR.out (by decide)) (fun _ hk => hk.2) _) (fun _ _ => trivial), Q_E2, fun _ h1_ => absurd ((hon 25 (by kernel_rfl)).symm.trans h1_) (by decide), fun h0_ => absurd ((hon 39 (by kernel_rfl)).symm.trans h0_) (by decide), fun _ => Kd.R_mono (Kd.R_far (p := ⟨Br, 0, none⟩) (Kd.R_types U3.out BR.out (by decide)) (fun _ hk => hk.2) _) (fun _ _ => trivial), Q_E3, fun _ h1_ => absurd ((hon 39 (by kernel_rfl)).symm.trans h1_) (by decide), Q_N13, Q_X9_, Q_X16_, Q_X24_, Q_X38_⟩
            refine steps_cons ?_ ?_
            ·rintro b a w' ⟨g9_, g16_, g24_, g38_, u0_, u1_, u2_, u3_, m9_, m16_, m24_, m38_, ha, Q_HB, Q_SZ, Q_BO, Q_BR, Q_BRb, Q_BRc, Q_BRd, Q_BRe, Q_HM, Q_A0, Q_U0, Q_E0, Q_L0, Q_A1, Q_U1, Q_E1, Q_L1, Q_A2, Q_U2, Q_E2, Q_L2, Q_A3, Q_U3, Q_E3, Q_L3, Q_N13, Q_X9_, Q_X16_, Q_X24_, Q_X38_⟩ hb_ hon hoff
             refine ⟨_, rfl, fun K hK => ?_⟩
             have e73 : a.tmps[73]? = some (.pointer (some ⟨Br, 0, none⟩)) := by rw [ha]; exact (putSel_off rfl).trans rfl
             replace ha := am ha
             have HB := am Q_HB
             have SZ := am Q_SZ
             have BRb := am (Q_BRb (hon 42 (by kernel_rfl)) (hoff 45 (by kernel_rfl)))
             have HM := am Q_HM
             have U0 := am (Q_U0 (hon 10 (by kernel_rfl)))
             have E0 := am (Q_E0 (hon 10 (by kernel_rfl)))
             have U1 := am (Q_U1 (hon 17 (by kernel_rfl)))
             have E1 := am (Q_E1 (hon 17 (by kernel_rfl)))
             have U2 := am (Q_U2 (hon 25 (by kernel_rfl)))
             have E2 := am (Q_E2 (hon 25 (by kernel_rfl)))
             have U3 := am (Q_U3 (hon 39 (by kernel_rfl)))
             have E3 := am (Q_E3 (hon 39 (by kernel_rfl)))
             have N13 := am (Q_N13 (hon 39 (by kernel_rfl)))
             refine value_ (w1 := w') (v := .pointer (some ⟨Br, 0, none⟩)) (by rfl) rfl ?_ ?_
             ·go_simp
              (try simp only [i64_w])
              try rfl
             refine hK.out _ _ ⟨g9_, g16_, g24_, g38_, u0_, u1_, u2_, u3_, m9_, m16_, m24_, m38_, (by rw [ha.out]; exact putSel_upk 19 hb_ rfl rfl rfl), Q_HB, Q_SZ, fun h0_ => absurd ((hon 8 (by kernel_rfl)).symm.trans h0_) (by decide), fun h0_ => absurd ((hon 42 (by kernel_rfl)).symm.trans h0_) (by decide), Q_BRb, fun h0_ _ => absurd ((hoff 45 (by kernel_rfl)).symm.trans h0_) (by decide), fun h0_ _ => absurd ((hoff 48 (by kernel_rfl)).symm.trans h0_) (by decide), fun h0_ => absurd ((hoff 51 (by kernel_rfl)).symm.trans h0_) (by decide), Q_HM, fun h0_ => absurd ((hon 10 (by kernel_rfl)).symm.trans h0_) (by decide), Q_U0, Q_E0, fun _ h1_ => absurd ((hon 10 (by kernel_rfl)).symm.trans h1_) (by decide), fun h0_ => absurd ((hon 17 (by kernel_rfl)).symm.trans h0_) (by decide), Q_U1, Q_E1, fun _ h1_ => absurd ((hon 17 (by kernel_rfl)).symm.trans h1_) (by decide), fun h0_ => absurd ((hon 25 (by kernel_rfl)).symm.trans h0_) (by decide), Q_U2, Q_E2, fun _ h1_ => absurd ((hon 25 (by kernel_rfl)).symm.trans h1_) (by decide), fun h0_ => absurd ((hon 39 (by kernel_rfl)).symm.trans h0_) (by decide), Q_U3, Q_E3, fun _ h1_ => absurd ((hon 39 (by kernel_rfl)).symm.trans h1_) (by decide), Q_N13, Q_X9_, Q_X16_, Q_X24_, Q_X38_⟩
            refine steps_cons ?_ ?_
            ·rintro b a w' ⟨g9_, g16_, g24_, g38_, u0_, u1_, u2_, u3_, m9_, m16_, m24_, m38_, ha, Q_HB, Q_SZ, Q_BO, Q_BR, Q_BRb, Q_BRc, Q_BRd, Q_BRe, Q_HM, Q_A0, Q_U0, Q_E0, Q_L0, Q_A1, Q_U1, Q_E1, Q_L1, Q_A2, Q_U2, Q_E2, Q_L2, Q_A3, Q_U3, Q_E3, Q_L3, Q_N13, Q_X9_, Q_X16_, Q_X24_, Q_X38_⟩ hb_ hon hoff
             refine ⟨_, rfl, fun K hK => ?_⟩
             have e114 : a.tmps[114]? = some (.pointer (some ⟨Br, 0, none⟩)) := by rw [ha]; exact putSel_on (e := (43, 114, .pointer (some ⟨Br, 0, none⟩))) 19 rfl rfl (hon 43 (by kernel_rfl)) rfl
             replace ha := am ha
             have HB := am Q_HB
             have SZ := am Q_SZ
             have BRb := am (Q_BRb (hon 42 (by kernel_rfl)) (hoff 45 (by kernel_rfl)))
             have HM := am Q_HM
             have U0 := am (Q_U0 (hon 10 (by kernel_rfl)))
             have E0 := am (Q_E0 (hon 10 (by kernel_rfl)))
             have U1 := am (Q_U1 (hon 17 (by kernel_rfl)))
             have E1 := am (Q_E1 (hon 17 (by kernel_rfl)))
             have U2 := am (Q_U2 (hon 25 (by kernel_rfl)))
             have E2 := am (Q_E2 (hon 25 (by kernel_rfl)))
             have U3 := am (Q_U3 (hon 39 (by kernel_rfl)))
             have E3 := am (Q_E3 (hon 39 (by kernel_rfl)))
             have N13 := am (Q_N13 (hon 39 (by kernel_rfl)))
             refine value_ (w1 := w') (v := .pointer (some ⟨Br, 1, none⟩)) (by rfl) rfl ?_ ?_
             ·go_simp
              (try simp only [i64_w])
              try rfl
             refine hK.out _ _ ⟨g9_, g16_, g24_, g38_, u0_, u1_, u2_, u3_, m9_, m16_, m24_, m38_, (by rw [ha.out]; exact putSel_upk 20 hb_ rfl rfl rfl), Q_HB, Q_SZ, fun h0_ => absurd ((hon 8 (by kernel_rfl)).symm.trans h0_) (by decide), fun h0_ => absurd ((hon 42 (by kernel_rfl)).symm.trans h0_) (by decide), Q_BRb, fun h0_ _ => absurd ((hoff 45 (by kernel_rfl)).symm.trans h0_) (by decide), fun h0_ _ => absurd ((hoff 48 (by kernel_rfl)).symm.trans h0_) (by decide), fun h0_ => absurd ((hoff 51 (by kernel_rfl)).symm.trans h0_) (by decide), Q_HM, fun h0_ => absurd ((hon 10 (by kernel_rfl)).symm.trans h0_) (by decide), Q_U0, Q_E0, fun _ h1_ => absurd ((hon 10 (by kernel_rfl)).symm.trans h1_) (by decide), fun h0_ => absurd ((hon 17 (by kernel_rfl)).symm.trans h0_) (by decide), Q_U1, Q_E1, fun _ h1_ => absurd ((hon 17 (by kernel_rfl)).symm.trans h1_) (by decide), fun h0_ => absurd ((hon 25 (by kernel_rfl)).symm.trans h0_) (by decide), Q_U2, Q_E2, fun _ h1_ => absurd ((hon 25 (by kernel_rfl)).symm.trans h1_) (by decide), fun h0_ => absurd ((hon 39 (by kernel_rfl)).symm.trans h0_) (by decide), Q_U3, Q_E3, fun _ h1_ => absurd ((hon 39 (by kernel_rfl)).symm.trans h1_) (by decide), Q_N13, Q_X9_, Q_X16_, Q_X24_, Q_X38_⟩
            refine steps_cons ?_ ?_
            ·rintro b a w' ⟨g9_, g16_, g24_, g38_, u0_, u1_, u2_, u3_, m9_, m16_, m24_, m38_, ha, Q_HB, Q_SZ, Q_BO, Q_BR, Q_BRb, Q_BRc, Q_BRd, Q_BRe, Q_HM, Q_A0, Q_U0, Q_E0, Q_L0, Q_A1, Q_U1, Q_E1, Q_L1, Q_A2, Q_U2, Q_E2, Q_L2, Q_A3, Q_U3, Q_E3, Q_L3, Q_N13, Q_X9_, Q_X16_, Q_X24_, Q_X38_⟩ hb_ hon hoff
             refine ⟨_, rfl, fun K hK => ?_⟩
             have e115 : a.tmps[115]? = some (.pointer (some ⟨Br, 1, none⟩)) := by rw [ha]; exact putSel_on (e := (44, 115, .pointer (some ⟨Br, 1, none⟩))) 20 rfl rfl (hon 44 (by kernel_rfl)) rfl
             have e89 : a.tmps[89]? = some (u1_) := by rw [ha]; exact putSel_on (e := (17, 89, u1_)) 6 rfl rfl (hon 17 (by kernel_rfl)) rfl
             replace ha := am ha
             have HB := am Q_HB
             have SZ := am Q_SZ
             have BRb := am (Q_BRb (hon 42 (by kernel_rfl)) hb_)
             have HM := am Q_HM
             have U0 := am (Q_U0 (hon 10 (by kernel_rfl)))
             have E0 := am (Q_E0 (hon 10 (by kernel_rfl)))
             have U1 := am (Q_U1 (hon 17 (by kernel_rfl)))
             have E1 := am (Q_E1 (hon 17 (by kernel_rfl)))
             have U2 := am (Q_U2 (hon 25 (by kernel_rfl)))
             have E2 := am (Q_E2 (hon 25 (by kernel_rfl)))
             have U3 := am (Q_U3 (hon 39 (by kernel_rfl)))
             have E3 := am (Q_E3 (hon 39 (by kernel_rfl)))
             have N13 := am (Q_N13 (hon 39 (by kernel_rfl)))
             obtain ⟨A_, cc_, hu_⟩ := Kd.R_slice U1.out
             rw [show (xs1 ++ [(k : Int)]).length = xs1.length + 1 from by simp] at hu_
             rw [hu_] at e89
             have z_ : w'.cell? ⟨Br, 1, none⟩ = some (.slice (some ⟨b1, 0, none⟩) n c1) := blk_cell BRb.out 1
             have zf_ := blk_frozen BRb.out 1
             refine skip_ (w1 := ?_) (by rfl) rfl ?_ ?_
             rotate_left
             ·go_simp
              rfl
             refine hK.out _ _ ⟨g9_, g16_, g24_, g38_, u0_, u1_, u2_, u3_, m9_, m16_, m24_, m38_, (by rw [ha.out]; exact putSel_none (v := undef) rfl), below_set HB.out HBG.out.1, by simpa using SZ.out, fun h0_ => absurd ((hon 8 (by kernel_rfl)).symm.trans h0_) (by decide), fun h0_ => absurd ((hon 42 (by kernel_rfl)).symm.trans h0_) (by decide), fun _ h1_ => absurd ((up_self b 45).symm.trans h1_) (by decide), fun _ _ => by rw [hu_]; exact blk_put BRb.out 1 _ rfl, fun h0_ _ => absurd ((hoff 48 (by kernel_rfl)).symm.trans h0_) (by decide), fun h0_ => absurd ((hoff 51 (by kernel_rfl)).symm.trans h0_) (by decide), holds_of_block HM.out (Below.heap_setCell _ _ _ M HMB.out), fun h0_ => absurd ((hon 10 (by kernel_rfl)).symm.trans h0_) (by decide), fun _ => Kd.R_mono (Kd.R_far (p := ⟨Br, 1, none⟩) (Kd.R_types U0.out BRb.out (by decide)) (fun _ hk => hk.2) _) (fun _ _ => trivial), Q_E0, fun _ h1_ => absurd ((hon 10 (by kernel_rfl)).symm.trans h1_) (by decide), fun h0_ => absurd ((hon 17 (by kernel_rfl)).symm.trans h0_) (by decide), fun _ => Kd.R_mono (Kd.R_far (p := ⟨Br, 1, none⟩) (Kd.R_types U1.out BRb.out (by decide)) (fun _ hk => hk.2) _) (fun _ _ => trivial), Q_E1, fun _ h1_ => absurd ((hon 17 (by kernel_rfl)).symm.trans h1_) (by decide), fun h0_ => absurd ((hon 25 (by kernel_rfl)).symm.trans h0_) (by decide), fun _ => Kd.R_mono (Kd.R_far (p := ⟨Br, 1, none⟩) (Kd.R_types U2.out BRb.out (by decide)) (fun _ hk => hk.2) _) (fun _ _ => trivial), Q_E2, fun _ h1_ => absurd ((hon 25 (by kernel_rfl)).symm.trans h1_) (by decide), fun h0_ => absurd ((hon 39 (by kernel_rfl)).symm.trans h0_) (by decide), fun _ => Kd.R_mono (Kd.R_far (p := ⟨Br, 1, none⟩) (Kd.R_types U3.out BRb.out (by decide)) (fun _ hk => hk.2) _) (fun _ _ => trivial), Q_E3, fun _ h1_ => absurd ((hon 39 (by kernel_rfl)).symm.trans h1_) (by decide), Q_N13, Q_X9_, Q_X16_, Q_X24_, Q_X38_⟩
            refine steps_cons ?_ ?_
            ·rintro b a w' ⟨g9_, g16_, g24_, g38_, u0_, u1_, u2_, u3_, m9_, m16_, m24_, m38_, ha, Q_HB, Q_SZ, Q_BO, Q_BR, Q_BRb, Q_BRc, Q_BRd, Q_BRe, Q_HM, Q_A0, Q_U0, Q_E0, Q_L0, Q_A1, Q_U1, Q_E1, Q_L1, Q_A2, Q_U2, Q_E2, Q_L2, Q_A3, Q_U3, Q_E3, Q_L3, Q_N13, Q_X9_, Q_X16_, Q_X24_, Q_X38_⟩ hb_ hon hoff
             refine ⟨_, rfl, fun K hK => ?_⟩
             have e74 : a.tmps[74]? = some (.pointer (some ⟨Br, 0, none⟩)) := by rw [ha]; exact (putSel_off rfl).trans rfl
             replace ha := am ha
             have HB := am Q_HB
             have SZ := am Q_SZ
             have BRc := am (Q_BRc (hon 45 (by kernel_rfl)) (hoff 48 (by kernel_rfl)))
             have HM := am Q_HM
             have U0 := am (Q_U0 (hon 10 (by kernel_rfl)))
             have E0 := am (Q_E0 (hon 10 (by kernel_rfl)))
             have U1 := am (Q_U1 (hon 17 (by kernel_rfl)))
             have E1 := am (Q_E1 (hon 17 (by kernel_rfl)))
             have U2 := am (Q_U2 (hon 25 (by kernel_rfl)))
             have E2 := am (Q_E2 (hon 25 (by kernel_rfl)))
             have U3 := am (Q_U3 (hon 39 (by kernel_rfl)))
             have E3 := am (Q_E3 (hon 39 (by kernel_rfl)))
             have N13 := am (Q_N13 (hon 39 (by kernel_rfl)))
             refine value_ (w1 := w') (v := .pointer (some ⟨Br, 0, none⟩)) (by rfl) rfl ?_ ?_
             ·go_simp
              (try simp only [i64_w])
              try rfl
             refine hK.out _ _ ⟨g9_, g16_, g24_, g38_, u0_, u1_, u2_, u3_, m9_, m16_, m24_, m38_, (by rw [ha.out]; exact putSel_upk 21 hb_ rfl rfl rfl), Q_HB, Q_SZ, fun h0_ => absurd ((hon 8 (by kernel_rfl)).symm.trans h0_) (by decide), fun h0_ => absurd ((hon 42 (by kernel_rfl)).symm.trans h0_) (by decide), fun _ h1_ => absurd ((hon 45 (by kernel_rfl)).symm.trans h1_) (by decide), Q_BRc, fun h0_ _ => absurd ((hoff 48 (by kernel_rfl)).symm.trans h0_) (by decide), fun h0_ => absurd ((hoff 51 (by kernel_rfl)).symm.trans h0_) (by decide), Q_HM, fun h0_ => absurd ((hon 10 (by kernel_rfl)).symm.trans h0_) (by decide), Q_U0, Q_E0, fun _ h1_ => absurd ((hon 10 (by kernel_rfl)).symm.trans h1_) (by decide), fun h0_ => absurd ((hon 17 (by kernel_rfl)).symm.trans h0_) (by decide), Q_U1, Q_E1, fun _ h1_ => absurd ((hon 17 (by kernel_rfl)).symm.trans h1_) (by decide), fun h0_ => absurd ((hon 25 (by kernel_rfl)).symm.trans h0_) (by decide), Q_U2, Q_E2, fun _ h1_ => absurd ((hon 25 (by kernel_rfl)).symm.trans h1_) (by decide), fun h0_ => absurd ((hon 39 (by kernel_rfl)).symm.trans h0_) (by decide), Q_U3, Q_E3, fun _ h1_ => absurd ((hon 39 (by kernel_rfl)).symm.trans h1_) (by decide), Q_N13, Q_X9_, Q_X16_, Q_X24_, Q_X38_⟩
            refine steps_cons ?_ ?_
            ·rintro b a w' ⟨g9_, g16_, g24_, g38_, u0_, u1_, u2_, u3_, m9_, m16_, m24_, m38_, ha, Q_HB, Q_SZ, Q_BO, Q_BR, Q_BRb, Q_BRc, Q_BRd, Q_BRe, Q_HM, Q_A0, Q_U0, Q_E0, Q_L0, Q_A1, Q_U1, Q_E1, Q_L1, Q_A2, Q_U2, Q_E2, Q_L2, Q_A3, Q_U3, Q_E3, Q_L3, Q_N13, Q_X9_, Q_X16_, Q_X24_, Q_X38_⟩ hb_ hon hoff
             refine ⟨_, rfl, fun K hK => ?_⟩
             have e116 : a.tmps[116]? = some (.pointer (some ⟨Br, 0, none⟩)) := by rw [ha]; exact putSel_on (e := (46, 116, .pointer (some ⟨Br, 0, none⟩))) 21 rfl rfl (hon 46 (by kernel_rfl)) rfl
             replace ha := am ha
             have HB := am Q_HB
             have SZ := am Q_SZ
             have BRc := am (Q_BRc (hon 45 (by kernel_rfl)) (hoff 48 (by kernel_rfl)))
             have HM := am Q_HM
             have U0 := am (Q_U0 (hon 10 (by kernel_rfl)))
             have E0 := am (Q_E0 (hon 10 (by kernel_rfl)))
             have U1 := am (Q_U1 (hon 17 (by kernel_rfl)))
             have E1 := am (Q_E1 (hon 17 (by kernel_rfl)))
             have U2 := am (Q_U2 (hon 25 (by kernel_rfl)))
             have E2 := am (Q_E2 (hon 25 (by kernel_rfl)))
             have U3 := am (Q_U3 (hon 39 (by kernel_rfl)))
             have E3 := am (Q_E3 (hon 39 (by kernel_rfl)))
             have N13 := am (Q_N13 (hon 39 (by kernel_rfl)))
             refine value_ (w1 := w') (v := .pointer (some ⟨Br, 2, none⟩)) (by rfl) rfl ?_ ?_
             ·go_simp
              (try simp only [i64_w])
              try rfl
             refine hK.out _ _ ⟨g9_, g16_, g24_, g38_, u0_, u1_, u2_, u3_, m9_, m16_, m24_, m38_, (by rw [ha.out]; exact putSel_upk 22 hb_ rfl rfl rfl), Q_HB, Q_SZ, fun h0_ => absurd ((hon 8 (by kernel_rfl)).symm.trans h0_) (by decide), fun h0_ => absurd ((hon 42 (by kernel_rfl)).symm.trans h0_) (by decide), fun _ h1_ => absurd ((hon 45 (by kernel_rfl)).symm.trans h1_) (by decide), Q_BRc, fun h0_ _ => absurd ((hoff 48 (by kernel_rfl)).symm.trans h0_) (by decide), fun h0_ => absurd ((hoff 51 (by kernel_rfl)).symm.trans h0_) (by decide), Q_HM, fun h0_ => absurd ((hon 10 (by kernel_rfl)).symm.trans h0_) (by decide), Q_U0, Q_E0, fun _ h1_ => absurd ((hon 10 (by kernel_rfl)).symm.trans h1_) (by decide), fun h0_ => absurd ((hon 17 (by kernel_rfl)).symm.trans h0_) (by decide), Q_U1, Q_E1, fun _ h1_ => absurd ((hon 17 (by kernel_rfl)).symm.trans h1_) (by decide), fun h0_ => absurd ((hon 25 (by kernel_rfl)).symm.trans h0_) (by decide), Q_U2, Q_E2, fun _ h1_ => absurd ((hon 25 (by kernel_rfl)).symm.trans h1_) (by decide), fun h0_ => absurd ((hon 39 (by kernel_rfl)).symm.trans h0_) (by decide), Q_U3, Q_E3, fun _ h1_ => absurd ((hon 39 (by kernel_rfl)).symm.trans h1_) (by decide), Q_N13, Q_X9_, Q_X16_, Q_X24_, Q_X38_⟩
            refine steps_cons ?_ ?_
            ·rintro b a w' ⟨g9_, g16_, g24_, g38_, u0_, u1_, u2_, u3_, m9_, m16_, m24_, m38_, ha, Q_HB, Q_SZ, Q_BO, Q_BR, Q_BRb, Q_BRc, Q_BRd, Q_BRe, Q_HM, Q_A0, Q_U0, Q_E0, Q_L0, Q_A1, Q_U1, Q_E1, Q_L1, Q_A2, Q_U2, Q_E2, Q_L2, Q_A3, Q_U3, Q_E3, Q_L3, Q_N13, Q_X9_, Q_X16_, Q_X24_, Q_X38_⟩ hb_ hon hoff
             refine ⟨_, rfl, fun K hK => ?_⟩
             have e117 : a.tmps[117]? = some (.pointer (some ⟨Br, 2, none⟩)) := by rw [ha]; exact putSel_on (e := (47, 117, .pointer (some ⟨Br, 2, none⟩))) 22 rfl rfl (hon 47 (by kernel_rfl)) rfl
             have e97 : a.tmps[97]? = some (u2_) := by rw [ha]; exact putSel_on (e := (25, 97, u2_)) 9 rfl rfl (hon 25 (by kernel_rfl)) rfl
             replace ha := am ha
             have HB := am Q_HB
             have SZ := am Q_SZ
             have BRc := am (Q_BRc (hon 45 (by kernel_rfl)) hb_)
             have HM := am Q_HM
             have U0 := am (Q_U0 (hon 10 (by kernel_rfl)))
             have E0 := am (Q_E0 (hon 10 (by kernel_rfl)))
             have U1 := am (Q_U1 (hon 17 (by kernel_rfl)))
             have E1 := am (Q_E1 (hon 17 (by kernel_rfl)))
             have U2 := am (Q_U2 (hon 25 (by kernel_rfl)))
             have E2 := am (Q_E2 (hon 25 (by kernel_rfl)))
             have U3 := am (Q_U3 (hon 39 (by kernel_rfl)))
             have E3 := am (Q_E3 (hon 39 (by kernel_rfl)))
             have N13 := am (Q_N13 (hon 39 (by kernel_rfl)))
             obtain ⟨A_, cc_, hu_⟩ := Kd.R_slice U2.out
             rw [show (xs2 ++ [byt i]).length = xs2.length + 1 from by simp] at hu_
             rw [hu_] at e97
             have z_ : w'.cell? ⟨Br, 2, none⟩ = some (.slice (some ⟨b2, 0, none⟩) n c2) := blk_cell BRc.out 2
             have zf_ := blk_frozen BRc.out 2
             refine skip_ (w1 := ?_) (by rfl) rfl ?_ ?_
             rotate_left
             ·go_simp
              rfl
             refine hK.out _ _ ⟨g9_, g16_, g24_, g38_, u0_, u1_, u2_, u3_, m9_, m16_, m24_, m38_, (by rw [ha.out]; exact putSel_none (v := undef) rfl), below_set HB.out HBG.out.1, by simpa using SZ.out, fun h0_ => absurd ((hon 8 (by kernel_rfl)).symm.trans h0_) (by decide), fun h0_ => absurd ((hon 42 (by kernel_rfl)).symm.trans h0_) (by decide), fun _ h1_ => absurd ((hon 45 (by kernel_rfl)).symm.trans h1_) (by decide), fun _ h1_ => absurd ((up_self b 48).symm.trans h1_) (by decide), fun _ _ => by rw [hu_]; exact blk_put BRc.out 2 _ rfl, fun h0_ => absurd ((hoff 51 (by kernel_rfl)).symm.trans h0_) (by decide), holds_of_block HM.out (Below.heap_setCell _ _ _ M HMB.out), fun h0_ => absurd ((hon 10 (by kernel_rfl)).symm.trans h0_) (by decide), fun _ => Kd.R_mono (Kd.R_far (p := ⟨Br, 2, none⟩) (Kd.R_types U0.out BRc.out (by decide)) (fun _ hk => hk.2) _) (fun _ _ => trivial), Q_E0, fun _ h1_ => absurd ((hon 10 (by kernel_rfl)).symm.trans h1_) (by decide), fun h0_ => absurd ((hon 17 (by kernel_rfl)).symm.trans h0_) (by decide), fun _ => Kd.R_mono (Kd.R_far (p := ⟨Br, 2, none⟩) (Kd.R_types U1.out BRc.out (by decide)) (fun _ hk => hk.2) _) (fun _ _ => trivial), Q_E1, fun _ h1_ => absurd ((hon 17 (by kernel_rfl)).symm.trans h1_) (by decide), fun h0_ => absurd ((hon 25 (by kernel_rfl)).symm.trans h0_) (by decide), fun _ => Kd.R_mono (Kd.R_far (p := ⟨Br, 2, none⟩) (Kd.R_types U2.out BRc.out (by decide)) (fun _ hk => hk.2) _) (fun _ _ => trivial), Q_E2, fun _ h1_ => absurd ((hon 25 (by kernel_rfl)).symm.trans h1_) (by decide), fun h0_ => absurd ((hon 39 (by kernel_rfl)).symm.trans h0_) (by decide), fun _ => Kd.R_mono (Kd.R_far (p := ⟨Br, 2, none⟩) (Kd.R_types U3.out BRc.out (by decide)) (fun _ hk => hk.2) _) (fun _ _ => trivial), Q_E3, fun _ h1_ => absurd ((hon 39 (by kernel_rfl)).symm.trans h1_) (by decide), Q_N13, Q_X9_, Q_X16_, Q_X24_, Q_X38_⟩
            refine steps_cons ?_ ?_
            ·rintro b a w' ⟨g9_, g16_, g24_, g38_, u0_, u1_, u2_, u3_, m9_, m16_, m24_, m38_, ha, Q_HB, Q_SZ, Q_BO, Q_BR, Q_BRb, Q_BRc, Q_BRd, Q_BRe, Q_HM, Q_A0, Q_U0, Q_E0, Q_L0, Q_A1, Q_U1, Q_E1, Q_L1, Q_A2, Q_U2, Q_E2, Q_L2, Q_A3, Q_U3, Q_E3, Q_L3, Q_N13, Q_X9_, Q_X16_, Q_X24_, Q_X38_⟩ hb_ hon hoff
             refine ⟨_, rfl, fun K hK => ?_⟩
             have e75 : a.tmps[75]? = some (.pointer (some ⟨Br, 0, none⟩)) := by rw [ha]; exact (putSel_off rfl).trans rfl
             replace ha := am ha
             have HB := am Q_HB
             have SZ := am Q_SZ
             have BRd := am (Q_BRd (hon 48 (by kernel_rfl)) (hoff 51 (by kernel_rfl)))
             have HM := am Q_HM
             have U0 := am (Q_U0 (hon 10 (by kernel_rfl)))
             have E0 := am (Q_E0 (hon 10 (by kernel_rfl)))
             have U1 := am (Q_U1 (hon 17 (by kernel_rfl)))
             have E1 := am (Q_E1 (hon 17 (by kernel_rfl)))
             have U2 := am (Q_U2 (hon 25 (by kernel_rfl)))
             have E2 := am (Q_E2 (hon 25 (by kernel_rfl)))
             have U3 := am (Q_U3 (hon 39 (by kernel_rfl)))
             have E3 := am (Q_E3 (hon 39 (by kernel_rfl)))
             have N13 := am (Q_N13 (hon 39 (by kernel_rfl)))
             refine value_ (w1 := w') (v := .pointer (some ⟨Br, 0, none⟩)) (by rfl) rfl ?_ ?_
             ·go_simp
              (try simp only [i64_w])
              try rfl
             refine hK.out _ _ ⟨g9_, g16_, g24_, g38_, u0_, u1_, u2_, u3_, m9_, m16_, m24_, m38_, (by rw [ha.out]; exact putSel_upk 23 hb_ rfl rfl rfl), Q_HB, Q_SZ, fun h0_ => absurd ((hon 8 (by kernel_rfl)).symm.trans h0_) (by decide), fun h0_ => absurd ((hon 42 (by kernel_rfl)).symm.trans h0_) (by decide), fun _ h1_ => absurd ((hon 45 (by kernel_rfl)).symm.trans h1_) (by decide), fun _ h1_ => absurd ((hon 48 (by kernel_rfl)).symm.trans h1_) (by decide), Q_BRd, fun h0_ => absurd ((hoff 51 (by kernel_rfl)).symm.trans h0_) (by decide), Q_HM, fun h0_ => absurd ((hon 10 (by kernel_rfl)).symm.trans h0_) (by decide), Q_U0, Q_E0, fun _ h1_ => absurd ((hon 10 (by kernel_rfl)).symm.trans h1_) (by decide), fun h0_ => absurd ((hon 17 (by kernel_rfl)).symm.trans h0_) (by decide), Q_U1, Q_E1, fun _ h1_ => absurd ((hon 17 (by kernel_rfl)).symm.trans h1_) (by decide), fun h0_ => absurd ((hon 25 (by kernel_rfl)).symm.trans h0_) (by decide), Q_U2, Q_E2, fun _ h1_ => absurd ((hon 25 (by kernel_rfl)).symm.trans h1_) (by decide), fun h0_ => absurd ((hon 39 (by kernel_rfl)).symm.trans h0_) (by decide), Q_U3, Q_E3, fun _ h1_ => absurd ((hon 39 (by kernel_rfl)).symm.trans h1_) (by decide), Q_N13, Q_X9_, Q_X16_, Q_X24_, Q_X38_⟩
            refine steps_cons ?_ ?_
            ·rintro b a w' ⟨g9_, g16_, g24_, g38_, u0_, u1_, u2_, u3_, m9_, m16_, m24_, m38_, ha, Q_HB, Q_SZ, Q_BO, Q_BR, Q_BRb, Q_BRc, Q_BRd, Q_BRe, Q_HM, Q_A0, Q_U0, Q_E0, Q_L0, Q_A1, Q_U1, Q_E1, Q_L1, Q_A2, Q_U2, Q_E2, Q_L2, Q_A3, Q_U3, Q_E3, Q_L3, Q_N13, Q_X9_, Q_X16_, Q_X24_, Q_X38_⟩ hb_ hon hoff
             refine ⟨_, rfl, fun K hK => ?_⟩
             have e118 : a.tmps[118]? = some (.pointer (some ⟨Br, 0, none⟩)) := by rw [ha]; exact putSel_on (e := (49, 118, .pointer (some ⟨Br, 0, none⟩))) 23 rfl rfl (hon 49 (by kernel_rfl)) rfl
             replace ha := am ha
             have HB := am Q_HB
             have SZ := am Q_SZ
             have BRd := am (Q_BRd (hon 48 (by kernel_rfl)) (hoff 51 (by kernel_rfl)))
             have HM := am Q_HM
             have U0 := am (Q_U0 (hon 10 (by kernel_rfl)))
             have E0 := am (Q_E0 (hon 10 (by kernel_rfl)))
             have U1 := am (Q_U1 (hon 17 (by kernel_rfl)))
             have E1 := am (Q_E1 (hon 17 (by kernel_rfl)))
             have U2 := am (Q_U2 (hon 25 (by kernel_rfl)))
             have E2 := am (Q_E2 (hon 25 (by kernel_rfl)))
             have U3 := am (Q_U3 (hon 39 (by kernel_rfl)))
             have E3 := am (Q_E3 (hon 39 (by kernel_rfl)))
             have N13 := am (Q_N13 (hon 39 (by kernel_rfl)))
             refine value_ (w1 := w') (v := .pointer (some ⟨Br, 3, none⟩)) (by rfl) rfl ?_ ?_
             ·go_simp
              (try simp only [i64_w])
              try rfl
             refine hK.out _ _ ⟨g9_, g16_, g24_, g38_, u0_, u1_, u2_, u3_, m9_, m16_, m24_, m38_, (by rw [ha.out]; exact putSel_upk 24 hb_ rfl rfl rfl), Q_HB, Q_SZ, fun h0_ => absurd ((hon 8 (by kernel_rfl)).symm.trans h0_) (by decide), fun h0_ => absurd ((hon 42 (by kernel_rfl)).symm.trans h0_) (by decide), fun _ h1_ => absurd ((hon 45 (by kernel_rfl)).symm.trans h1_) (by decide), fun _ h1_ => absurd ((hon 48 (by kernel_rfl)).symm.trans h1_) (by decide), Q_BRd, fun h0_ => absurd ((hoff 51 (by kernel_rfl)).symm.trans h0_) (by decide), Q_HM, fun h0_ => absurd ((hon 10 (by kernel_rfl)).symm.trans h0_) (by decide), Q_U0, Q_E0, fun _ h1_ => absurd ((hon 10 (by kernel_rfl)).symm.trans h1_) (by decide), fun h0_ => absurd ((hon 17 (by kernel_rfl)).symm.trans h0_) (by decide), Q_U1, Q_E1, fun _ h1_ => absurd ((hon 17 (by kernel_rfl)).symm.trans h1_) (by decide), fun h0_ => absurd ((hon 25 (by kernel_rfl)).symm.trans h0_) (by decide), Q_U2, Q_E2, fun _ h1_ => absurd ((hon 25 (by kernel_rfl)).symm.trans h1_) (by decide), fun h0_ => absurd ((hon 39 (by kernel_rfl)).symm.trans h0_) (by decide), Q_U3, Q_E3, fun _ h1_ => absurd ((hon 39 (by kernel_rfl)).symm.trans h1_) (by decide), Q_N13, Q_X9_, Q_X16_, Q_X24_, Q_X38_⟩
            refine steps_cons ?_ ?_
            ·rintro b a w' ⟨g9_, g16_, g24_, g38_, u0_, u1_, u2_, u3_, m9_, m16_, m24_, m38_, ha, Q_HB, Q_SZ, Q_BO, Q_BR, Q_BRb, Q_BRc, Q_BRd, Q_BRe, Q_HM, Q_A0, Q_U0, Q_E0, Q_L0, Q_A1, Q_U1, Q_E1, Q_L1, Q_A2, Q_U2, Q_E2, Q_L2, Q_A3, Q_U3, Q_E3, Q_L3, Q_N13, Q_X9_, Q_X16_, Q_X24_, Q_X38_⟩ hb_ hon hoff
             refine ⟨_, rfl, fun K hK => ?_⟩
             have e119 : a.tmps[119]? = some (.pointer (some ⟨Br, 3, none⟩)) := by rw [ha]; exact putSel_on (e := (50, 119, .pointer (some ⟨Br, 3, none⟩))) 24 rfl rfl (hon 50 (by kernel_rfl)) rfl
             have e111 : a.tmps[111]? = some (u3_) := by rw [ha]; exact putSel_on (e := (39, 111, u3_)) 16 rfl rfl (hon 39 (by kernel_rfl)) rfl
             replace ha := am ha
             have HB := am Q_HB
             have SZ := am Q_SZ
             have BRd := am (Q_BRd (hon 48 (by kernel_rfl)) hb_)
             have HM := am Q_HM
             have U0 := am (Q_U0 (hon 10 (by kernel_rfl)))
             have E0 := am (Q_E0 (hon 10 (by kernel_rfl)))
             have U1 := am (Q_U1 (hon 17 (by kernel_rfl)))
             have E1 := am (Q_E1 (hon 17 (by kernel_rfl)))
             have U2 := am (Q_U2 (hon 25 (by kernel_rfl)))
             have E2 := am (Q_E2 (hon 25 (by kernel_rfl)))
             have U3 := am (Q_U3 (hon 39 (by kernel_rfl)))
             have E3 := am (Q_E3 (hon 39 (by kernel_rfl)))
             have N13 := am (Q_N13 (hon 39 (by kernel_rfl)))
             obtain ⟨A_, cc_, hu_⟩ := Kd.R_slice U3.out
             rw [show (xs3 ++ [(fk : Int) + 1]).length = xs3.length + 1 from by simp] at hu_
             rw [hu_] at e111
             have z_ : w'.cell? ⟨Br, 3, none⟩ = some (.slice (some ⟨b3, 0, none⟩) n c3) := blk_cell BRd.out 3
             have zf_ := blk_frozen BRd.out 3
             refine skip_ (w1 := ?_) (by rfl) rfl ?_ ?_
             rotate_left
             ·go_simp
              rfl
             refine hK.out _ _ ⟨g9_, g16_, g24_, g38_, u0_, u1_, u2_, u3_, m9_, m16_, m24_, m38_, (by rw [ha.out]; exact putSel_none (v := undef) rfl), below_set HB.out HBG.out.1, by simpa using SZ.out, fun h0_ => absurd ((hon 8 (by kernel_rfl)).symm.trans h0_) (by decide), fun h0_ => absurd ((hon 42 (by kernel_rfl)).symm.trans h0_) (by decide), fun _ h1_ => absurd ((hon 45 (by kernel_rfl)).symm.trans h1_) (by decide), fun _ h1_ => absurd ((hon 48 (by kernel_rfl)).symm.trans h1_) (by decide), fun _ h1_ => absurd ((up_self b 51).symm.trans h1_) (by decide), fun _ => by rw [hu_]; exact blk_put BRd.out 3 _ rfl, holds_of_block HM.out (Below.heap_setCell _ _ _ M HMB.out), fun h0_ => absurd ((hon 10 (by kernel_rfl)).symm.trans h0_) (by decide), fun _ => Kd.R_mono (Kd.R_far (p := ⟨Br, 3, none⟩) (Kd.R_types U0.out BRd.out (by decide)) (fun _ hk => hk.2) _) (fun _ _ => trivial), Q_E0, fun _ h1_ => absurd ((hon 10 (by kernel_rfl)).symm.trans h1_) (by decide), fun h0_ => absurd ((hon 17 (by kernel_rfl)).symm.trans h0_) (by decide), fun _ => Kd.R_mono (Kd.R_far (p := ⟨Br, 3, none⟩) (Kd.R_types U1.out BRd.out (by decide)) (fun _ hk => hk.2) _) (fun _ _ => trivial), Q_E1, fun _ h1_ => absurd ((hon 17 (by kernel_rfl)).symm.trans h1_) (by decide), fun h0_ => absurd ((hon 25 (by kernel_rfl)).symm.trans h0_) (by decide), fun _ => Kd.R_mono (Kd.R_far (p := ⟨Br, 3, none⟩) (Kd.R_types U2.out BRd.out (by decide)) (fun _ hk => hk.2) _) (fun _ _ => trivial), Q_E2, fun _ h1_ => absurd ((hon 25 (by kernel_rfl)).symm.trans h1_) (by decide), fun h0_ => absurd ((hon 39 (by kernel_rfl)).symm.trans h0_) (by decide), fun _ => Kd.R_mono (Kd.R_far (p := ⟨Br, 3, none⟩) (Kd.R_types U3.out BRd.out (by decide)) (fun _ hk => hk.2) _) (fun _ _ => trivial), Q_E3, fun _ h1_ => absurd ((hon 39 (by kernel_rfl)).symm.trans h1_) (by decide), Q_N13, Q_X9_, Q_X16_, Q_X24_, Q_X38_⟩
            exact steps_nil
           ·rintro b a w' hall ⟨g9_, g16_, g24_, g38_, u0_, u1_, u2_, u3_, m9_, m16_, m24_, m38_, ha, Q_HB, Q_SZ, Q_BO, Q_BR, Q_BRb, Q_BRc, Q_BRd, Q_BRe, Q_HM, Q_A0, Q_U0, Q_E0, Q_L0, Q_A1, Q_U1, Q_E1, Q_L1, Q_A2, Q_U2, Q_E2, Q_L2, Q_A3, Q_U3, Q_E3, Q_L3, Q_N13, Q_X9_, Q_X16_, Q_X24_, Q_X38_⟩
            clear A0 A1 A2 A3 BO BR HB HM SZ
            have hb7_ := hall 7 (by kernel_rfl)
            have hb8_ := hall 8 (by kernel_rfl)
            have hb9_ := hall 9 (by kernel_rfl)
            have hb10_ := hall 10 (by kernel_rfl)
            have hb14_ := hall 14 (by kernel_rfl)
            have hb16_ := hall 16 (by kernel_rfl)
            have hb17_ := hall 17 (by kernel_rfl)
            have hb21_ := hall 21 (by kernel_rfl)
            have hb24_ := hall 24 (by kernel_rfl)
            have hb25_ := hall 25 (by kernel_rfl)
            have hb29_ := hall 29 (by kernel_rfl)
            have hb33_ := hall 33 (by kernel_rfl)
            have hb35_ := hall 35 (by kernel_rfl)
            have hb36_ := hall 36 (by kernel_rfl)
            have hb37_ := hall 37 (by kernel_rfl)
            have hb38_ := hall 38 (by kernel_rfl)
            have hb39_ := hall 39 (by kernel_rfl)
            have hb40_ := hall 40 (by kernel_rfl)
            have hb41_ := hall 41 (by kernel_rfl)
            have hb42_ := hall 42 (by kernel_rfl)
            have hb43_ := hall 43 (by kernel_rfl)
            have hb44_ := hall 44 (by kernel_rfl)
            have hb45_ := hall 45 (by kernel_rfl)
            have hb46_ := hall 46 (by kernel_rfl)
            have hb47_ := hall 47 (by kernel_rfl)
            have hb48_ := hall 48 (by kernel_rfl)
            have hb49_ := hall 49 (by kernel_rfl)
            have hb50_ := hall 50 (by kernel_rfl)
            have hb51_ := hall 51 (by kernel_rfl)
            subst ha
            obtain rfl := Q_X9_ hb9_
            obtain rfl := Q_X16_ hb16_
            obtain rfl := Q_X24_ hb24_
            obtain rfl := Q_X38_ hb38_
            simp only [putSel, hb7_, hb8_, hb9_, hb10_, hb14_, hb16_, hb17_, hb21_, hb24_, hb25_, hb29_, hb33_, hb35_, hb36_, hb37_, hb38_, hb39_, hb40_, hb41_, hb42_, hb43_, hb44_, hb45_, hb46_, hb47_, hb48_, hb49_, hb50_, hb51_, if_true, Act.put, List.setIfInBounds_toArray, List.set_cons_zero, List.set_cons_succ]
            have HB := am Q_HB
            clear Q_HB
            have SZ := am Q_SZ
            clear Q_SZ
            clear Q_BO
            clear Q_BR
            clear Q_BRb
            clear Q_BRc
            clear Q_BRd
            have BRe := am (Q_BRe hb51_)
            clear Q_BRe
            have HM := am Q_HM
            clear Q_HM
            clear Q_A0
            have U0 := am (Q_U0 hb10_)
            clear Q_U0
            have E0 := am (Q_E0 hb10_)
            clear Q_E0
            clear Q_L0
            clear Q_A1
            have U1 := am (Q_U1 hb17_)
            clear Q_U1
            have E1 := am (Q_E1 hb17_)
            clear Q_E1
            clear Q_L1
            clear Q_A2
            have U2 := am (Q_U2 hb25_)
            clear Q_U2
            have E2 := am (Q_E2 hb25_)
            clear Q_E2
            clear Q_L2
            clear Q_A3
            have U3 := am (Q_U3 hb39_)
            clear Q_U3
            have E3 := am (Q_E3 hb39_)
            clear Q_E3
            clear Q_L3
            have N13 := am (Q_N13 hb39_)
            clear Q_N13
            clear hall hb7_ hb8_ hb9_ hb10_ hb14_ hb16_ hb17_ hb21_ hb24_ hb25_ hb29_ hb33_ hb35_ hb36_ hb37_ hb38_ hb39_ hb40_ hb41_ hb42_ hb43_ hb44_ hb45_ hb46_ hb47_ hb48_ hb49_ hb50_ hb51_
            go_wp2_with fail
            go_roundw
            case rel => exact ⟨i + 1, by go_num, by omega, u0_, u1_, u2_, u3_, by
             rw [Bfs.some_, ← HL1.out, one_new HX1.out (by rw [← HT.out, ← HCN.out]) (by rw [← HT.out, ← HU.out, ← HXS.out.2.2.2.2]; exact Maps.place_none.1 HNO.out), ← HT.out, ← HU.out]
             exact newRS HXS.out HI.out HX1.out HFK.out HB.out BRe.out U0.out U1.out U2.out U3.out HM.out N13.out HBG.out⟩
            case measure => simp [intOf]; omega
     ·obtain rfl : i = 4 := by omega
      have HNX := hid (At.next HA.out HSM.out hlt HR.out)
      go_wp2_with fail
      go_roundw
      case rel => exact ⟨k + 1, _, by go_num, HNX.out⟩
      case measure => simp [intOf]; omega
   ·obtain ⟨v0, v1, v2, v3, hr0⟩ := HA.out.rs
    have hle := HA.out.le
    have hd := At.done HA.out HSM.out (by omega)
    have hl0 : 0 < L.length := by
     have := HA.out.inv.root
     exact (List.getElem?_eq_some_iff.1 this).1
    rw [hd] at hr0
    have HF := hid hr0
    obtain ⟨b0, c0, hv0, _, _⟩ := R_form hr0.r0 (by rw [← hd]; simpa using hl0)
    subst hv0
    obtain ⟨n, hn⟩ : ∃ n, n = ((Bfs.search (mvf mo can) 1001 s0).map fun x => sSt x.1).length := ⟨_, rfl⟩
    have hq0 : wr.cell? ⟨Br, 0, none⟩ = some (.slice (some ⟨b0, 0, none⟩) n c0) := by rw [hn]; exact blk_cell hr0.blk 0
    have hkn : ¬ (k : Int) < (n : Int) := by
     rw [hn, ← hd]
     simp
     omega
    clear hr0 hn hd
    go_wp2_with fail
    go_ret
    exact ⟨Br, rfl, M, _, _, _, _, HF.out⟩
end Go.Proofs.YtkoejpimalbhbaaDoor.Reached
