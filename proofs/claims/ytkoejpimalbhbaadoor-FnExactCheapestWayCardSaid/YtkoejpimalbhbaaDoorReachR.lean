/- What a search leaves in memory: the record of states found, where they came from, by what roll, how far they are, and the map of their places. Laws of its parts. -/
import Derived.Test.YtkoejpimalbhbaaDoorMaps
import Derived.Test.YtkoejpimalbhbaaDoorReach
import Derived.Test.YtkoejpimalbhbaaDoorQBsx0
import Derived.Test.YtkoejpimalbhbaaDoorWOne
namespace Go.Proofs.YtkoejpimalbhbaaDoor.ReachR
open Go.RowKit Go.Proofs.YtkoejpimalbhbaaDoorW.PrintWords Go.Proofs.YtkoejpimalbhbaaDoor.QBs Go.Proofs.YtkoejpimalbhbaaDoor.Maps
open Go.Proofs.YtkoejpimalbhbaaDoor.Reach (St frm)
open Go.Proofs.YtkoejpimalbhbaaDoor.Dice (Die roll)
open Go.ChangeMaps (setBlock)
set_option linter.unusedVariables false
set_option linter.unusedSimpArgs false

abbrev sSt (t : St) : S30 := ⟨t.x, t.y, ⟨t.d.t, t.d.n, t.d.e, t.d.s, t.d.w, t.d.b⟩⟩
abbrev st8 (t : St) : Array Value := #[.int .i64 t.x, .int .i64 t.y, .int .i64 t.d.t, .int .i64 t.d.n, .int .i64 t.d.e, .int .i64 t.d.s, .int .i64 t.d.w, .int .i64 t.d.b]
abbrev encSt (t : St) : Value := .agg (st8 t)

theorem eqD (d : Nat) (w : World) (x0 y0 x1 y1 x2 y2 x3 y3 x4 y4 x5 y5 : Int) :
  (Op.equalIn (d + 2) 28 (.agg #[.int .i64 x0, .int .i64 x1, .int .i64 x2, .int .i64 x3, .int .i64 x4, .int .i64 x5]) (.agg #[.int .i64 y0, .int .i64 y1, .int .i64 y2, .int .i64 y3, .int .i64 y4, .int .i64 y5])).run Tryd.prog w = .ok (x0 == y0 && (x1 == y1 && (x2 == y2 && (x3 == y3 && (x4 == y4 && (x5 == y5)))))) w := by
 refine eqA_of Tryd.underlying28 (by kernel_rfl) ?_
 refine eqf_cons (by rfl) (by go_simp; rfl) (by go_simp; rfl) (by go_simp) ?_
 refine eqf_cons (by rfl) (by go_simp; rfl) (by go_simp; rfl) (by go_simp) ?_
 refine eqf_cons (by rfl) (by go_simp; rfl) (by go_simp; rfl) (by go_simp) ?_
 refine eqf_cons (by rfl) (by go_simp; rfl) (by go_simp; rfl) (by go_simp) ?_
 refine eqf_cons (by rfl) (by go_simp; rfl) (by go_simp; rfl) (by go_simp) ?_
 exact eqf_last (by rfl) (by go_simp; rfl) (by go_simp; rfl) (by go_simp)
theorem eqS (d : Nat) (w : World) (x y : St) : (Op.equalIn (d + 3) 30 (encSt x) (encSt y)).run Tryd.prog w = .ok (x.x == y.x && (x.y == y.y && (x.d.t == y.d.t && (x.d.n == y.d.n && (x.d.e == y.d.e && (x.d.s == y.d.s && (x.d.w == y.d.w && (x.d.b == y.d.b)))))))) w := by
 refine eqA_of Tryd.underlying30 (by kernel_rfl) ?_
 refine eqf_cons (by rfl) (by go_simp; rfl) (by go_simp; rfl) (by go_simp) ?_
 refine eqf_cons (by rfl) (by go_simp; rfl) (by go_simp; rfl) (by go_simp) ?_
 exact eqf_last (by rfl) (by first | (go_simp; done) | (go_simp; rfl)) (by first | (go_simp; done) | (go_simp; rfl)) (eqD d w _ _ _ _ _ _ _ _ _ _ _ _)
theorem beqSt (x y : St) : (x.x == y.x && (x.y == y.y && (x.d.t == y.d.t && (x.d.n == y.d.n && (x.d.e == y.d.e && (x.d.s == y.d.s && (x.d.w == y.d.w && (x.d.b == y.d.b)))))))) = decide (x = y) := by
 obtain ⟨x0, x1, ⟨x2, x3, x4, x5, x6, x7⟩⟩ := x
 obtain ⟨y0, y1, ⟨y2, y3, y4, y5, y6, y7⟩⟩ := y
 rw [Bool.eq_iff_iff]
 simp
theorem chkD (em : Bool) (n : Nat) (x0 x1 x2 x3 x4 x5 : Int) (w : World) : (Instr.checkKey em (n + 2) 28 (.agg #[.int .i64 x0, .int .i64 x1, .int .i64 x2, .int .i64 x3, .int .i64 x4, .int .i64 x5])).run Tryd.prog w = .ok () w := by
 have h : ∀ (n : Nat) (v : Int) (w : World), (Instr.checkKey em (n + 1) 3 (.int .i64 v)).run Tryd.prog w = .ok () w := fun n v w => by
  unfold Instr.checkKey
  simp [run_underlying Tryd.underlying3]
 rw [Instr.checkKey]
 go_simp
theorem chk (em : Bool) (x : St) (w : World) : (Instr.checkKey em 10000 30 (encSt x)).run Tryd.prog w = .ok () w := by
 have h : ∀ (n : Nat) (v : Int) (w : World), (Instr.checkKey em (n + 1) 3 (.int .i64 v)).run Tryd.prog w = .ok () w := fun n v w => by
  unfold Instr.checkKey
  simp [run_underlying Tryd.underlying3]
 have hd := fun (w : World) => chkD em 9997 x.d.t x.d.n x.d.e x.d.s x.d.w x.d.b w
 rw [Instr.checkKey]
 go_simp
theorem fits : Maps.Fits Tryd.prog 30 encSt where
 chk := chk
 eql := fun x y w => by
  unfold Op.equal Op.maxDepth
  rw [← beqSt]
  exact eqS 9997 w x y
 agg := fun x => ⟨_, rfl⟩
 kd := ⟨_, Tryd.underlying30⟩

abbrev valN : Nat → Value := fun i => .int .i64 (i : Int)
def lastD (l : List Nat) : Int := match l.getLast? with
 | none => 0
 | some d => if d = 0 then 110 else if d = 1 then 101 else if d = 2 then 115 else 119
abbrev kSt := k30
structure RS (w0 wr : World) (B M : Nat) (L : Bfs.Nodes St) (v0 v1 v2 v3 : Value) : Prop where
 blk : wr.heap[B]? = some (.cells #[v0, v1, v2, v3, .map (some M)] 65 (0, 0))
 r0 : Kd.R kSt 30 wr w0.heap.size (fun _ => True) v0 (L.map fun x => sSt x.1)
 r1 : Kd.R (Kd.int .i64) 3 wr w0.heap.size (fun _ => True) v1 (L.map (frm L))
 r2 : Kd.R (Kd.int .u8) 5 wr w0.heap.size (fun _ => True) v2 (L.map fun x => lastD x.2)
 r3 : Kd.R (Kd.int .i64) 3 wr w0.heap.size (fun _ => True) v3 (L.map fun x => (x.2.length : Int))
 map : holds wr encSt valN M (L.map (·.1))
 ne : ∀ k, v1.ownBlock = some k → v3.ownBlock = some k → False
 bel : Below w0.heap.size w0 wr
 big : w0.heap.size ≤ B
 bigM : w0.heap.size ≤ M
theorem RS.below {w0 wr w1 : World} {B M : Nat} {L : Bfs.Nodes St} {v0 v1 v2 v3 : Value} (h : RS w0 wr B M L v0 v1 v2 v3) (hb : Below wr.heap.size wr w1) : RS w0 w1 B M L v0 v1 v2 v3 :=
 ⟨blk_below h.blk hb, Kd.R_below h.r0 hb, Kd.R_below h.r1 hb, Kd.R_below h.r2 hb, Kd.R_below h.r3 hb, holds_below h.map hb, h.ne, below_then h.bel h.bel.size hb, h.big, h.bigM⟩

theorem R_form {α : Type} {d : Kd α} {e base : Nat} {ok : Nat → Prop} {w : World} {v : Value} {xs : List α} (h : d.R e w base ok v xs) (hn : 0 < xs.length) : ∃ g c, v = .slice (some ⟨g, 0, none⟩) xs.length c ∧ base ≤ g ∧ g < w.heap.size := by
 obtain ⟨inner, ho⟩ := Kd.R_own h
 obtain ⟨g, c, rfl, _, _⟩ := ho.form hn
 exact ⟨g, c, rfl, own_base ho g rfl, Kd.R_lt h g rfl⟩
theorem add0 (b n : Nat) : (Addr.add ⟨b, 0, none⟩ n) = ⟨b, n, none⟩ := by
 by_cases h : n = 0
 ·simp [Addr.add, h]
 ·simp [Addr.add, h]
theorem st_cells {e base b c n : Nat} {ok : Nat → Prop} {w : World} {xs : List S30} (h : Kd.R kSt e w base ok (.slice (some ⟨b, 0, none⟩) n c) xs) (k : Nat) (t : St) (hx : xs[k]? = some (sSt t)) :
  w.cell? ⟨b, k * 8, none⟩ = some (.int .i64 t.x) ∧ w.cell? ⟨b, k * 8 + 1, none⟩ = some (.int .i64 t.y) ∧ w.cell? ⟨b, k * 8 + 2, none⟩ = some (.int .i64 t.d.t) ∧ w.cell? ⟨b, k * 8 + 3, none⟩ = some (.int .i64 t.d.n) ∧
  w.cell? ⟨b, k * 8 + 4, none⟩ = some (.int .i64 t.d.e) ∧ w.cell? ⟨b, k * 8 + 5, none⟩ = some (.int .i64 t.d.s) ∧ w.cell? ⟨b, k * 8 + 6, none⟩ = some (.int .i64 t.d.w) ∧ w.cell? ⟨b, k * 8 + 7, none⟩ = some (.int .i64 t.d.b) := by
 obtain ⟨hk, hv⟩ := List.getElem?_eq_some_iff.1 hx
 have hC := (Kd.R_reads' h).2.2
 obtain ⟨ad, e0, h0, h1, h2, h3, h4, h5, h6, h7⟩ := at_T30 hC (k : Int) (by omega) (by omega)
 have hr : rd_T30 xs (k : Int) = sSt t := by simp [rd_T30, List.getD, hx]
 injection e0 with e0
 subst e0
 rw [hr] at h0 h1 h2 h3 h4 h5 h6 h7
 simp only [Int.toNat_natCast, add0] at h0 h1 h2 h3 h4 h5 h6 h7
 exact ⟨h0, h1, h2, h3, h4, h5, h6, h7⟩
theorem int_cell {e base b c n : Nat} {ok : Nat → Prop} {w : World} {K : IntKind} {xs : List Int} (h : Kd.R (Kd.int K) e w base ok (.slice (some ⟨b, 0, none⟩) n c) xs) (k : Nat) (v : Int) (hx : xs[k]? = some v) : w.cell? ⟨b, k, none⟩ = some (.int K v) := by
 obtain ⟨hk, hv⟩ := List.getElem?_eq_some_iff.1 hx
 have hC := (Kd.R_reads' h).2.2
 obtain ⟨ad, e0, h0⟩ := Kd.at_int hC (k : Int) (by omega) (by omega)
 injection e0 with e0
 subst e0
 simp only [Int.toNat_natCast, add0] at h0
 rw [h0]
 simp [rd, List.getD, hx]
theorem lit_R {α : Type} (d : Kd α) {W : World} {base g e : Nat} {x : α} {cs : List Value} (hg : base ≤ g) (hb : W.heap[g]? = some (.cells cs.toArray e (0, 0))) (hM : d.M W base (fun k => True ∧ some k ≠ (Value.slice (some ⟨g, 0, none⟩) 1 1).ownBlock) x cs) : d.R e W base (fun _ => True) (.slice (some ⟨g, 0, none⟩) 1 1) [x] := by
 have hl := d.K_len (d.K_of_M hM)
 refine ⟨fun _ _ => trivial, cs, ⟨?_, .inr ⟨g, 1, cs.toArray, rfl, hg, hb, Nat.le_refl _, by decide, ?_, ?_⟩⟩, ?_⟩
 ·simp [hl]
 ·simp [hl]
 ·simp [← hl]
 ·refine ⟨by simp [hl], fun j p hj => ?_⟩
  rcases j with _ | j
  ·have : x = p := by simpa using hj
   subst this
   have e1 : (cs.drop (0 * d.sz)).take d.sz = cs := by rw [Nat.zero_mul, List.drop_zero, ← hl, List.take_length]
   rw [e1]
   exact hM
  ·simp at hj
end Go.Proofs.YtkoejpimalbhbaaDoor.ReachR
