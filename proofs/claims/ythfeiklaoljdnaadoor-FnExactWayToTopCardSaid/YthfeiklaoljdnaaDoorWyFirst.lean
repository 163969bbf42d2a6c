/- The reference's word to the first state at a cell, walked. Conditions: a list of no more than 1000000 nodes. -/
import Derived.Test.YthfeiklaoljdnaaDoorWyWord
namespace Go.Proofs.YthfeiklaoljdnaaDoor.WyFirst
open Go.RowKit Go.Proofs.YthfeiklaoljdnaaDoorW.PrintWords Go.Proofs.YthfeiklaoljdnaaDoorW.PrintLast Go.Proofs.YthfeiklaoljdnaaDoor.QBs Go.Proofs.YthfeiklaoljdnaaDoor.WyR Go.Proofs.YthfeiklaoljdnaaDoor.WyWord
set_option linter.unusedVariables false
set_option linter.unusedSimpArgs false

def hit (x y top : Int) (n : SN) : Bool := decide ((n.f0.f0 = x ∧ n.f0.f1 = y ∧ (top < 0 ∨ n.f0.f2.f0 = top)) ∧ n.f1 ≤ 60)
def firstW (l : List SN) (x y top : Int) : Nat → Nat → Option (ByteArray × Bool)
  | 0, _ => none
  | k + 1, i => if i < l.length then (if hit x y top (rd_T69 l i) = true then (back l (l.length + 1) i ⟨#[]⟩).bind fun t => some (t, true) else firstW l x y top k (i + 1)) else some (⟨#[]⟩, false)
theorem cells16 {w : World} {ad : Addr} {n : Nat} {l : List SN} (h : Kd.C kNd w (some ad) n l) (i : Nat) (h0 : 0 ≤ (i : Int)) (h1 : (i : Int) < (n : Int)) : ∃ e0 e1 e2 e3 e4 e5 e6 e7 e8 e9 e10 e11 e12 e13 e14 e15 : Int,
    (e0 = (rd_T69 l i).f0.f0 ∧ e1 = (rd_T69 l i).f0.f1 ∧ e2 = (rd_T69 l i).f0.f2.f0 ∧ e8 = (rd_T69 l i).f1) ∧
    (w.cell? (ad.add (i * 16)) = some (.int .i64 e0) ∧ w.cell? ⟨(ad.add (i * 16)).block, (ad.add (i * 16)).off + 1, none⟩ = some (.int .i64 e1) ∧ w.cell? ⟨(ad.add (i * 16)).block, (ad.add (i * 16)).off + 2, none⟩ = some (.int .i64 e2) ∧ w.cell? ⟨(ad.add (i * 16)).block, (ad.add (i * 16)).off + 3, none⟩ = some (.int .i64 e3) ∧
     w.cell? ⟨(ad.add (i * 16)).block, (ad.add (i * 16)).off + 4, none⟩ = some (.int .i64 e4) ∧ w.cell? ⟨(ad.add (i * 16)).block, (ad.add (i * 16)).off + 5, none⟩ = some (.int .i64 e5) ∧ w.cell? ⟨(ad.add (i * 16)).block, (ad.add (i * 16)).off + 6, none⟩ = some (.int .i64 e6) ∧ w.cell? ⟨(ad.add (i * 16)).block, (ad.add (i * 16)).off + 7, none⟩ = some (.int .i64 e7) ∧
     w.cell? ⟨(ad.add (i * 16)).block, (ad.add (i * 16)).off + 8, none⟩ = some (.int .i64 e8) ∧ w.cell? ⟨(ad.add (i * 16)).block, (ad.add (i * 16)).off + 9, none⟩ = some (.int .i64 e9) ∧ w.cell? ⟨(ad.add (i * 16)).block, (ad.add (i * 16)).off + 10, none⟩ = some (.int .i64 e10) ∧ w.cell? ⟨(ad.add (i * 16)).block, (ad.add (i * 16)).off + 11, none⟩ = some (.int .i64 e11) ∧
     w.cell? ⟨(ad.add (i * 16)).block, (ad.add (i * 16)).off + 12, none⟩ = some (.int .i64 e12) ∧ w.cell? ⟨(ad.add (i * 16)).block, (ad.add (i * 16)).off + 13, none⟩ = some (.int .i64 e13) ∧ w.cell? ⟨(ad.add (i * 16)).block, (ad.add (i * 16)).off + 14, none⟩ = some (.int .i64 e14) ∧ w.cell? ⟨(ad.add (i * 16)).block, (ad.add (i * 16)).off + 15, none⟩ = some (.int .i64 e15)) := by
  obtain ⟨ad', q, hs⟩ := at_T69 h (i : Int) h0 h1
  injection q with q
  subst q
  rw [Int.toNat_natCast] at hs
  exact ⟨_, _, _, _, _, _, _, _, _, _, _, _, _, _, _, _, ⟨rfl, rfl, rfl, rfl⟩, hs⟩
theorem ways (p q r s u : Prop) [Decidable p] [Decidable q] [Decidable r] [Decidable s] [Decidable u] : ((p ∧ q ∧ r ∧ u) ∨ (p ∧ q ∧ ¬ r ∧ s ∧ u)) ∨ (¬ p ∨ (p ∧ ¬ q) ∨ (p ∧ q ∧ r ∧ ¬ u) ∨ (p ∧ q ∧ ¬ r ∧ s ∧ ¬ u) ∨ (p ∧ q ∧ ¬ r ∧ ¬ s)) := by
  by_cases hp : p <;> by_cases hq : q <;> by_cases hr : r <;> by_cases hs : s <;> by_cases hu : u <;> simp [hp, hq, hr, hs, hu]
set_option maxHeartbeats 8000000 in
set_option maxRecDepth 100000 in
theorem first_walk (A0 : Option Addr) (c0 : Nat) (l : List SN) (x y top : Int) (r1 : ByteArray) (r2 : Bool) (w : World) (hr0 : Kd.C kNd w A0 l.length l) (hc0 : l.length ≤ c0) (hl : l.length ≤ 1000000) (h : firstW l x y top (l.length + 1) 0 = some (r1, r2)) :
    Calls Tryd.prog 42 #[.slice A0 l.length c0, .int .i64 x, .int .i64 y, .int .i64 top] w fun e w' => e = .returned (.tuple #[.string r1, .bool r2]) ∧ Below w.heap.size w w' := by
  have hu69 := Tryd.underlying69
  have HC0 := Go.Lib.hid hr0
  have HCC := Go.Lib.hid hc0
  have HL := Go.Lib.hid hl
  have H0 := Go.Lib.hid h
  clear hr0 hc0 hl h
  go_enter Tryd.func42, Tryd.ntmps42
  go_wp2_with fail
  go_loopw [10, 11, 14] (fun v10 v11 v14 wr => ∃ (i k : Nat), v14 = .int .i64 (i : Int) ∧ i ≤ l.length ∧ firstW l x y top k i = some (r1, r2) ∧ Below w.heap.size w wr) (fun _ _ v14 _ => l.length - (intOf v14).toNat)
  case atStart => exact ⟨0, l.length + 1, rfl, Nat.zero_le _, H0.out, Below.refl _ _⟩
  case round =>
    clear H0
    obtain ⟨i, k, rfl, hi, hf, hB⟩ := hrel
    have HB := Go.Lib.hid hB
    clear hB
    cases k with
    | zero => cases hf
    | succ k =>
      unfold firstW at hf
      by_cases hlt : i < l.length
      · rw [if_pos hlt] at hf
        obtain ⟨ad, rfl⟩ : ∃ ad, A0 = some ad := by
          obtain ⟨ad, e, _⟩ := at_T69 HC0.out (i : Int) (by omega) (by omega)
          exact ⟨ad, e⟩
        obtain ⟨e0, e1, e2, e3, e4, e5, e6, e7, e8, e9, e10, e11, e12, e13, e14, e15, ⟨q0, q1, q2, q8⟩, m0, m1, m2, m3, m4, m5, m6, m7, m8, m9, m10, m11, m12, m13, m14, m15⟩ := cells16 (Kd.C_below HC0.out HB.out) i (by omega) (by omega)
        have hhit : hit x y top (rd_T69 l i) = decide ((e0 = x ∧ e1 = y ∧ (top < 0 ∨ e2 = top)) ∧ e8 ≤ 60) := by rw [q0, q1, q2, q8]; rfl
        rw [hhit] at hf
        have HF := Go.Lib.hid hf
        have HLT := Go.Lib.hid hlt
        have hi0 : (0 : Int) ≤ (i : Int) := by omega
        have hi1 : (i : Int) < (l.length : Int) := by omega
        clear hf hlt hhit q0 q1 q2 q8
        go_upto_region 4 with (first | ((with_reducible refine gate_dst (N := 11) rfl ?_); refine box_event ?hg (N := 11) ?hd (cs := #[.int .i64 0, .int .i64 0, .int .i64 0, .int .i64 0, .int .i64 0, .int .i64 0, .int .i64 0, .int .i64 0, .int .i64 0, .int .i64 0, .int .i64 0, .int .i64 0, .int .i64 0, .int .i64 0, .int .i64 0, .int .i64 0]) (t := 69) ?hr ?_; (case hd => rfl); (case hg => rfl); (case hr => first | (go_simp; done) | (go_simp; rfl)); intro gb hg w8 hbox hb; have n_HB := Go.Lib.hid (below_step (by repeat (first | (with_reducible first | exact HB.out | apply below_alloc | apply pw_below_drewN | apply below_drew1) | exact HB.out)) hb); have HGB := Go.Lib.hid (by rw [hg]; exact (below_size (by repeat (first | (with_reducible first | exact HB.out | apply below_alloc | apply pw_below_drewN | apply below_drew1) | exact HB.out))) : w.heap.size ≤ gb); have BX := Go.Lib.hid (hbox); clear HB; have HB := n_HB; clear n_HB hg hb hbox; have z0_ : w8.cell? ⟨gb, 0, none⟩ = some (.int .i64 0) := blk_cell BX.out 0; have zf0_ := blk_frozen BX.out 0; have z1_ : w8.cell? ⟨gb, 1, none⟩ = some (.int .i64 0) := blk_cell BX.out 1; have zf1_ := blk_frozen BX.out 1; have z2_ : w8.cell? ⟨gb, 2, none⟩ = some (.int .i64 0) := blk_cell BX.out 2; have zf2_ := blk_frozen BX.out 2; have z3_ : w8.cell? ⟨gb, 3, none⟩ = some (.int .i64 0) := blk_cell BX.out 3; have zf3_ := blk_frozen BX.out 3; have z4_ : w8.cell? ⟨gb, 4, none⟩ = some (.int .i64 0) := blk_cell BX.out 4; have zf4_ := blk_frozen BX.out 4; have z5_ : w8.cell? ⟨gb, 5, none⟩ = some (.int .i64 0) := blk_cell BX.out 5; have zf5_ := blk_frozen BX.out 5; have z6_ : w8.cell? ⟨gb, 6, none⟩ = some (.int .i64 0) := blk_cell BX.out 6; have zf6_ := blk_frozen BX.out 6; have z7_ : w8.cell? ⟨gb, 7, none⟩ = some (.int .i64 0) := blk_cell BX.out 7; have zf7_ := blk_frozen BX.out 7; have z8_ : w8.cell? ⟨gb, 8, none⟩ = some (.int .i64 0) := blk_cell BX.out 8; have zf8_ := blk_frozen BX.out 8; have z9_ : w8.cell? ⟨gb, 9, none⟩ = some (.int .i64 0) := blk_cell BX.out 9; have zf9_ := blk_frozen BX.out 9; have z10_ : w8.cell? ⟨gb, 10, none⟩ = some (.int .i64 0) := blk_cell BX.out 10; have zf10_ := blk_frozen BX.out 10; have z11_ : w8.cell? ⟨gb, 11, none⟩ = some (.int .i64 0) := blk_cell BX.out 11; have zf11_ := blk_frozen BX.out 11; have z12_ : w8.cell? ⟨gb, 12, none⟩ = some (.int .i64 0) := blk_cell BX.out 12; have zf12_ := blk_frozen BX.out 12; have z13_ : w8.cell? ⟨gb, 13, none⟩ = some (.int .i64 0) := blk_cell BX.out 13; have zf13_ := blk_frozen BX.out 13; have z14_ : w8.cell? ⟨gb, 14, none⟩ = some (.int .i64 0) := blk_cell BX.out 14; have zf14_ := blk_frozen BX.out 14; have z15_ : w8.cell? ⟨gb, 15, none⟩ = some (.int .i64 0) := blk_cell BX.out 15; have zf15_ := blk_frozen BX.out 15))
        clear z0_ zf0_ z1_ zf1_ z2_ zf2_ z3_ zf3_ z4_ zf4_ z5_ zf5_ z6_ zf6_ z7_ zf7_ z8_ zf8_ z9_ zf9_ z10_ zf10_ z11_ zf11_ z12_ zf12_ z13_ zf13_ z14_ zf14_ z15_ zf15_ m0 m1 m2 m3 m4 m5 m6 m7 m8 m9 m10 m11 m12 m13 m14 m15
        have n_BX := Go.Lib.hid (blk_put (cs := #[.int .i64 e0, .int .i64 e1, .int .i64 e2, .int .i64 e3, .int .i64 e4, .int .i64 e5, .int .i64 e6, .int .i64 e7, .int .i64 e8, .int .i64 e9, .int .i64 e10, .int .i64 e11, .int .i64 e12, .int .i64 e13, .int .i64 e14, .int .i64 0]) (cs' := #[.int .i64 e0, .int .i64 e1, .int .i64 e2, .int .i64 e3, .int .i64 e4, .int .i64 e5, .int .i64 e6, .int .i64 e7, .int .i64 e8, .int .i64 e9, .int .i64 e10, .int .i64 e11, .int .i64 e12, .int .i64 e13, .int .i64 e14, .int .i64 e15]) (blk_put (cs := #[.int .i64 e0, .int .i64 e1, .int .i64 e2, .int .i64 e3, .int .i64 e4, .int .i64 e5, .int .i64 e6, .int .i64 e7, .int .i64 e8, .int .i64 e9, .int .i64 e10, .int .i64 e11, .int .i64 e12, .int .i64 e13, .int .i64 0, .int .i64 0]) (cs' := #[.int .i64 e0, .int .i64 e1, .int .i64 e2, .int .i64 e3, .int .i64 e4, .int .i64 e5, .int .i64 e6, .int .i64 e7, .int .i64 e8, .int .i64 e9, .int .i64 e10, .int .i64 e11, .int .i64 e12, .int .i64 e13, .int .i64 e14, .int .i64 0]) (blk_put (cs := #[.int .i64 e0, .int .i64 e1, .int .i64 e2, .int .i64 e3, .int .i64 e4, .int .i64 e5, .int .i64 e6, .int .i64 e7, .int .i64 e8, .int .i64 e9, .int .i64 e10, .int .i64 e11, .int .i64 e12, .int .i64 0, .int .i64 0, .int .i64 0]) (cs' := #[.int .i64 e0, .int .i64 e1, .int .i64 e2, .int .i64 e3, .int .i64 e4, .int .i64 e5, .int .i64 e6, .int .i64 e7, .int .i64 e8, .int .i64 e9, .int .i64 e10, .int .i64 e11, .int .i64 e12, .int .i64 e13, .int .i64 0, .int .i64 0]) (blk_put (cs := #[.int .i64 e0, .int .i64 e1, .int .i64 e2, .int .i64 e3, .int .i64 e4, .int .i64 e5, .int .i64 e6, .int .i64 e7, .int .i64 e8, .int .i64 e9, .int .i64 e10, .int .i64 e11, .int .i64 0, .int .i64 0, .int .i64 0, .int .i64 0]) (cs' := #[.int .i64 e0, .int .i64 e1, .int .i64 e2, .int .i64 e3, .int .i64 e4, .int .i64 e5, .int .i64 e6, .int .i64 e7, .int .i64 e8, .int .i64 e9, .int .i64 e10, .int .i64 e11, .int .i64 e12, .int .i64 0, .int .i64 0, .int .i64 0]) (blk_put (cs := #[.int .i64 e0, .int .i64 e1, .int .i64 e2, .int .i64 e3, .int .i64 e4, .int .i64 e5, .int .i64 e6, .int .i64 e7, .int .i64 e8, .int .i64 e9, .int .i64 e10, .int .i64 0, .int .i64 0, .int .i64 0, .int .i64 0, .int .i64 0]) (cs' := #[.int .i64 e0, .int .i64 e1, .int .i64 e2, .int .i64 e3, .int .i64 e4, .int .i64 e5, .int .i64 e6, .int .i64 e7, .int .i64 e8, .int .i64 e9, .int .i64 e10, .int .i64 e11, .int .i64 0, .int .i64 0, .int .i64 0, .int .i64 0]) (blk_put (cs := #[.int .i64 e0, .int .i64 e1, .int .i64 e2, .int .i64 e3, .int .i64 e4, .int .i64 e5, .int .i64 e6, .int .i64 e7, .int .i64 e8, .int .i64 e9, .int .i64 0, .int .i64 0, .int .i64 0, .int .i64 0, .int .i64 0, .int .i64 0]) (cs' := #[.int .i64 e0, .int .i64 e1, .int .i64 e2, .int .i64 e3, .int .i64 e4, .int .i64 e5, .int .i64 e6, .int .i64 e7, .int .i64 e8, .int .i64 e9, .int .i64 e10, .int .i64 0, .int .i64 0, .int .i64 0, .int .i64 0, .int .i64 0]) (blk_put (cs := #[.int .i64 e0, .int .i64 e1, .int .i64 e2, .int .i64 e3, .int .i64 e4, .int .i64 e5, .int .i64 e6, .int .i64 e7, .int .i64 e8, .int .i64 0, .int .i64 0, .int .i64 0, .int .i64 0, .int .i64 0, .int .i64 0, .int .i64 0]) (cs' := #[.int .i64 e0, .int .i64 e1, .int .i64 e2, .int .i64 e3, .int .i64 e4, .int .i64 e5, .int .i64 e6, .int .i64 e7, .int .i64 e8, .int .i64 e9, .int .i64 0, .int .i64 0, .int .i64 0, .int .i64 0, .int .i64 0, .int .i64 0]) (blk_put (cs := #[.int .i64 e0, .int .i64 e1, .int .i64 e2, .int .i64 e3, .int .i64 e4, .int .i64 e5, .int .i64 e6, .int .i64 e7, .int .i64 0, .int .i64 0, .int .i64 0, .int .i64 0, .int .i64 0, .int .i64 0, .int .i64 0, .int .i64 0]) (cs' := #[.int .i64 e0, .int .i64 e1, .int .i64 e2, .int .i64 e3, .int .i64 e4, .int .i64 e5, .int .i64 e6, .int .i64 e7, .int .i64 e8, .int .i64 0, .int .i64 0, .int .i64 0, .int .i64 0, .int .i64 0, .int .i64 0, .int .i64 0]) (blk_put (cs := #[.int .i64 e0, .int .i64 e1, .int .i64 e2, .int .i64 e3, .int .i64 e4, .int .i64 e5, .int .i64 e6, .int .i64 0, .int .i64 0, .int .i64 0, .int .i64 0, .int .i64 0, .int .i64 0, .int .i64 0, .int .i64 0, .int .i64 0]) (cs' := #[.int .i64 e0, .int .i64 e1, .int .i64 e2, .int .i64 e3, .int .i64 e4, .int .i64 e5, .int .i64 e6, .int .i64 e7, .int .i64 0, .int .i64 0, .int .i64 0, .int .i64 0, .int .i64 0, .int .i64 0, .int .i64 0, .int .i64 0]) (blk_put (cs := #[.int .i64 e0, .int .i64 e1, .int .i64 e2, .int .i64 e3, .int .i64 e4, .int .i64 e5, .int .i64 0, .int .i64 0, .int .i64 0, .int .i64 0, .int .i64 0, .int .i64 0, .int .i64 0, .int .i64 0, .int .i64 0, .int .i64 0]) (cs' := #[.int .i64 e0, .int .i64 e1, .int .i64 e2, .int .i64 e3, .int .i64 e4, .int .i64 e5, .int .i64 e6, .int .i64 0, .int .i64 0, .int .i64 0, .int .i64 0, .int .i64 0, .int .i64 0, .int .i64 0, .int .i64 0, .int .i64 0]) (blk_put (cs := #[.int .i64 e0, .int .i64 e1, .int .i64 e2, .int .i64 e3, .int .i64 e4, .int .i64 0, .int .i64 0, .int .i64 0, .int .i64 0, .int .i64 0, .int .i64 0, .int .i64 0, .int .i64 0, .int .i64 0, .int .i64 0, .int .i64 0]) (cs' := #[.int .i64 e0, .int .i64 e1, .int .i64 e2, .int .i64 e3, .int .i64 e4, .int .i64 e5, .int .i64 0, .int .i64 0, .int .i64 0, .int .i64 0, .int .i64 0, .int .i64 0, .int .i64 0, .int .i64 0, .int .i64 0, .int .i64 0]) (blk_put (cs := #[.int .i64 e0, .int .i64 e1, .int .i64 e2, .int .i64 e3, .int .i64 0, .int .i64 0, .int .i64 0, .int .i64 0, .int .i64 0, .int .i64 0, .int .i64 0, .int .i64 0, .int .i64 0, .int .i64 0, .int .i64 0, .int .i64 0]) (cs' := #[.int .i64 e0, .int .i64 e1, .int .i64 e2, .int .i64 e3, .int .i64 e4, .int .i64 0, .int .i64 0, .int .i64 0, .int .i64 0, .int .i64 0, .int .i64 0, .int .i64 0, .int .i64 0, .int .i64 0, .int .i64 0, .int .i64 0]) (blk_put (cs := #[.int .i64 e0, .int .i64 e1, .int .i64 e2, .int .i64 0, .int .i64 0, .int .i64 0, .int .i64 0, .int .i64 0, .int .i64 0, .int .i64 0, .int .i64 0, .int .i64 0, .int .i64 0, .int .i64 0, .int .i64 0, .int .i64 0]) (cs' := #[.int .i64 e0, .int .i64 e1, .int .i64 e2, .int .i64 e3, .int .i64 0, .int .i64 0, .int .i64 0, .int .i64 0, .int .i64 0, .int .i64 0, .int .i64 0, .int .i64 0, .int .i64 0, .int .i64 0, .int .i64 0, .int .i64 0]) (blk_put (cs := #[.int .i64 e0, .int .i64 e1, .int .i64 0, .int .i64 0, .int .i64 0, .int .i64 0, .int .i64 0, .int .i64 0, .int .i64 0, .int .i64 0, .int .i64 0, .int .i64 0, .int .i64 0, .int .i64 0, .int .i64 0, .int .i64 0]) (cs' := #[.int .i64 e0, .int .i64 e1, .int .i64 e2, .int .i64 0, .int .i64 0, .int .i64 0, .int .i64 0, .int .i64 0, .int .i64 0, .int .i64 0, .int .i64 0, .int .i64 0, .int .i64 0, .int .i64 0, .int .i64 0, .int .i64 0]) (blk_put (cs := #[.int .i64 e0, .int .i64 0, .int .i64 0, .int .i64 0, .int .i64 0, .int .i64 0, .int .i64 0, .int .i64 0, .int .i64 0, .int .i64 0, .int .i64 0, .int .i64 0, .int .i64 0, .int .i64 0, .int .i64 0, .int .i64 0]) (cs' := #[.int .i64 e0, .int .i64 e1, .int .i64 0, .int .i64 0, .int .i64 0, .int .i64 0, .int .i64 0, .int .i64 0, .int .i64 0, .int .i64 0, .int .i64 0, .int .i64 0, .int .i64 0, .int .i64 0, .int .i64 0, .int .i64 0]) (blk_put (cs := #[.int .i64 0, .int .i64 0, .int .i64 0, .int .i64 0, .int .i64 0, .int .i64 0, .int .i64 0, .int .i64 0, .int .i64 0, .int .i64 0, .int .i64 0, .int .i64 0, .int .i64 0, .int .i64 0, .int .i64 0, .int .i64 0]) (cs' := #[.int .i64 e0, .int .i64 0, .int .i64 0, .int .i64 0, .int .i64 0, .int .i64 0, .int .i64 0, .int .i64 0, .int .i64 0, .int .i64 0, .int .i64 0, .int .i64 0, .int .i64 0, .int .i64 0, .int .i64 0, .int .i64 0]) BX.out 0 _ rfl) 1 _ rfl) 2 _ rfl) 3 _ rfl) 4 _ rfl) 5 _ rfl) 6 _ rfl) 7 _ rfl) 8 _ rfl) 9 _ rfl) 10 _ rfl) 11 _ rfl) 12 _ rfl) 13 _ rfl) 14 _ rfl) 15 _ rfl)
        have n_HB := Go.Lib.hid (Below.setCell (p := ⟨gb, 15, none⟩) (Below.setCell (p := ⟨gb, 14, none⟩) (Below.setCell (p := ⟨gb, 13, none⟩) (Below.setCell (p := ⟨gb, 12, none⟩) (Below.setCell (p := ⟨gb, 11, none⟩) (Below.setCell (p := ⟨gb, 10, none⟩) (Below.setCell (p := ⟨gb, 9, none⟩) (Below.setCell (p := ⟨gb, 8, none⟩) (Below.setCell (p := ⟨gb, 7, none⟩) (Below.setCell (p := ⟨gb, 6, none⟩) (Below.setCell (p := ⟨gb, 5, none⟩) (Below.setCell (p := ⟨gb, 4, none⟩) (Below.setCell (p := ⟨gb, 3, none⟩) (Below.setCell (p := ⟨gb, 2, none⟩) (Below.setCell (p := ⟨gb, 1, none⟩) (Below.setCell (p := ⟨gb, 0, none⟩) HB.out HGB.out (.int .i64 e0)) HGB.out (.int .i64 e1)) HGB.out (.int .i64 e2)) HGB.out (.int .i64 e3)) HGB.out (.int .i64 e4)) HGB.out (.int .i64 e5)) HGB.out (.int .i64 e6)) HGB.out (.int .i64 e7)) HGB.out (.int .i64 e8)) HGB.out (.int .i64 e9)) HGB.out (.int .i64 e10)) HGB.out (.int .i64 e11)) HGB.out (.int .i64 e12)) HGB.out (.int .i64 e13)) HGB.out (.int .i64 e14)) HGB.out (.int .i64 e15))
        clear BX HB
        have BX := n_BX
        have HB := n_HB
        clear n_BX n_HB
        generalize World.setCell _ _ _ = w9 at BX HB ⊢
        have n0 : w9.cell? ⟨gb, 0, none⟩ = some (.int .i64 e0) := blk_cell BX.out 0
        have n1 : w9.cell? ⟨gb, 1, none⟩ = some (.int .i64 e1) := blk_cell BX.out 1
        have n2 : w9.cell? ⟨gb, 2, none⟩ = some (.int .i64 e2) := blk_cell BX.out 2
        have n8 : w9.cell? ⟨gb, 8, none⟩ = some (.int .i64 e8) := blk_cell BX.out 8
        rcases ways (e0 = x) (e1 = y) (top < 0) (e2 = top) (e8 ≤ 60) with ((⟨h1, h2, h3, h5⟩ | ⟨h1, h2, h3, h4, h5⟩) | (h1 | ⟨h1, h2⟩ | ⟨h1, h2, h3, h5⟩ | ⟨h1, h2, h3, h4, h5⟩ | ⟨h1, h2, h3, h4⟩))
        · have hf := HF.out
          rw [if_pos (decide_eq_true (show (e0 = x ∧ e1 = y ∧ (top < 0 ∨ e2 = top)) ∧ e8 ≤ 60 from ⟨⟨h1, h2, .inl h3⟩, h5⟩))] at hf
          obtain ⟨tx, htx, hrr⟩ := Option.bind_eq_some_iff.1 hf
          injection hrr with hrr
          injection hrr with hr1 hr2
          subst hr1 hr2
          have HW := Go.Lib.hid (word_walk (some ad) c0 l (i : Int) tx w9 (Kd.C_below HC0.out HB.out) HCC.out HL.out htx)
          clear hf htx HF
          have d1 := decide_eq_true h1
          have b1 : (e0 == x) = true := by simpa using h1
          have d2 := decide_eq_true h2
          have b2 : (e1 == y) = true := by simpa using h2
          have d3 := decide_eq_true h3
          have d5 := decide_eq_true h5
          have g5 : decide (60 < e8) = false := decide_eq_false (by omega)
          go_wp2_with fail
          refine HW.out.mono ?_
          rintro e' w10 ⟨rfl, hb⟩
          have HB2 := Go.Lib.hid (below_then HB.out HB.out.size hb)
          clear hb HW HB n0 n1 n2 n8
          go_wp2_with fail
          go_ret2
          exact ⟨rfl, HB2.out⟩
        · have hf := HF.out
          rw [if_pos (decide_eq_true (show (e0 = x ∧ e1 = y ∧ (top < 0 ∨ e2 = top)) ∧ e8 ≤ 60 from ⟨⟨h1, h2, .inr h4⟩, h5⟩))] at hf
          obtain ⟨tx, htx, hrr⟩ := Option.bind_eq_some_iff.1 hf
          injection hrr with hrr
          injection hrr with hr1 hr2
          subst hr1 hr2
          have HW := Go.Lib.hid (word_walk (some ad) c0 l (i : Int) tx w9 (Kd.C_below HC0.out HB.out) HCC.out HL.out htx)
          clear hf htx HF
          have d1 := decide_eq_true h1
          have b1 : (e0 == x) = true := by simpa using h1
          have d2 := decide_eq_true h2
          have b2 : (e1 == y) = true := by simpa using h2
          have d3 := decide_eq_false h3
          have d4 := decide_eq_true h4
          have b4 : (e2 == top) = true := by simpa using h4
          have d5 := decide_eq_true h5
          have g5 : decide (60 < e8) = false := decide_eq_false (by omega)
          go_wp2_with fail
          refine HW.out.mono ?_
          rintro e' w10 ⟨rfl, hb⟩
          have HB2 := Go.Lib.hid (below_then HB.out HB.out.size hb)
          clear hb HW HB n0 n1 n2 n8
          go_wp2_with fail
          go_ret2
          exact ⟨rfl, HB2.out⟩
        · have hf := HF.out
          rw [decide_eq_false (show ¬ ((e0 = x ∧ e1 = y ∧ (top < 0 ∨ e2 = top)) ∧ e8 ≤ 60) from fun h => h1 h.1.1), if_neg (by decide)] at hf
          have HF2 := Go.Lib.hid hf
          clear hf HF
          have d1 := decide_eq_false h1
          have b1 : (e0 == x) = false := by simpa using h1
          have hll := HL.out
          go_wp2_with fail
          go_roundw
          case rel => exact ⟨i + 1, k, by go_num, HLT.out, HF2.out, HB.out⟩
          case measure =>
            have := HLT.out
            simp [intOf]
            omega
        · have hf := HF.out
          rw [decide_eq_false (show ¬ ((e0 = x ∧ e1 = y ∧ (top < 0 ∨ e2 = top)) ∧ e8 ≤ 60) from fun h => h2 h.1.2.1), if_neg (by decide)] at hf
          have HF2 := Go.Lib.hid hf
          clear hf HF
          have d1 := decide_eq_true h1
          have b1 : (e0 == x) = true := by simpa using h1
          have d2 := decide_eq_false h2
          have b2 : (e1 == y) = false := by simpa using h2
          have hll := HL.out
          go_wp2_with fail
          go_roundw
          case rel => exact ⟨i + 1, k, by go_num, HLT.out, HF2.out, HB.out⟩
          case measure =>
            have := HLT.out
            simp [intOf]
            omega
        · have hf := HF.out
          rw [decide_eq_false (show ¬ ((e0 = x ∧ e1 = y ∧ (top < 0 ∨ e2 = top)) ∧ e8 ≤ 60) from fun h => h5 h.2), if_neg (by decide)] at hf
          have HF2 := Go.Lib.hid hf
          clear hf HF
          have d1 := decide_eq_true h1
          have b1 : (e0 == x) = true := by simpa using h1
          have d2 := decide_eq_true h2
          have b2 : (e1 == y) = true := by simpa using h2
          have d3 := decide_eq_true h3
          have d5 := decide_eq_false h5
          have g5 : decide (60 < e8) = true := decide_eq_true (by omega)
          have hll := HL.out
          go_wp2_with fail
          go_roundw
          case rel => exact ⟨i + 1, k, by go_num, HLT.out, HF2.out, HB.out⟩
          case measure =>
            have := HLT.out
            simp [intOf]
            omega
        · have hf := HF.out
          rw [decide_eq_false (show ¬ ((e0 = x ∧ e1 = y ∧ (top < 0 ∨ e2 = top)) ∧ e8 ≤ 60) from fun h => h5 h.2), if_neg (by decide)] at hf
          have HF2 := Go.Lib.hid hf
          clear hf HF
          have d1 := decide_eq_true h1
          have b1 : (e0 == x) = true := by simpa using h1
          have d2 := decide_eq_true h2
          have b2 : (e1 == y) = true := by simpa using h2
          have d3 := decide_eq_false h3
          have d4 := decide_eq_true h4
          have b4 : (e2 == top) = true := by simpa using h4
          have d5 := decide_eq_false h5
          have g5 : decide (60 < e8) = true := decide_eq_true (by omega)
          have hll := HL.out
          go_wp2_with fail
          go_roundw
          case rel => exact ⟨i + 1, k, by go_num, HLT.out, HF2.out, HB.out⟩
          case measure =>
            have := HLT.out
            simp [intOf]
            omega
        · have hf := HF.out
          rw [decide_eq_false (show ¬ ((e0 = x ∧ e1 = y ∧ (top < 0 ∨ e2 = top)) ∧ e8 ≤ 60) from fun h => h.1.2.2.elim h3 h4), if_neg (by decide)] at hf
          have HF2 := Go.Lib.hid hf
          clear hf HF
          have d1 := decide_eq_true h1
          have b1 : (e0 == x) = true := by simpa using h1
          have d2 := decide_eq_true h2
          have b2 : (e1 == y) = true := by simpa using h2
          have d3 := decide_eq_false h3
          have d4 := decide_eq_false h4
          have b4 : (e2 == top) = false := by simpa using h4
          have hll := HL.out
          go_wp2_with fail
          go_roundw
          case rel => exact ⟨i + 1, k, by go_num, HLT.out, HF2.out, HB.out⟩
          case measure =>
            have := HLT.out
            simp [intOf]
            omega
      · rw [if_neg hlt] at hf
        injection hf with hf
        injection hf with hr1 hr2
        subst hr1 hr2
        obtain rfl : i = l.length := by omega
        have hge : ¬ ((l.length : Int) < (l.length : Int)) := by omega
        clear hlt
        go_wp2_with fail
        go_ret2
        exact ⟨rfl, HB.out⟩
end Go.Proofs.YthfeiklaoljdnaaDoor.WyFirst
