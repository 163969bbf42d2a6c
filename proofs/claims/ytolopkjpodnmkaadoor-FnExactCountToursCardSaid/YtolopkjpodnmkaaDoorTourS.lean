/- The reference's CountTours, walked. Conditions: a text of no more than 2^20 bytes. -/
import Derived.Test.YtolopkjpodnmkaaDoorFromS
import Derived.Test.YtolopkjpodnmkaaDoorCountT
import Derived.Test.YtolopkjpodnmkaaDoorQBpx
namespace Go.Proofs.YtolopkjpodnmkaaDoor.TourS
open Go.RowKit Go.Proofs.YtolopkjpodnmkaaDoor.QBp Go.Proofs.YtolopkjpodnmkaaDoorW.PrintWords Go.Proofs.YtolopkjpodnmkaaDoorW.PrintLast Go.Proofs.YtolopkjpodnmkaaDoor.Board Go.Proofs.YtolopkjpodnmkaaDoor.IsDie Go.Proofs.YtolopkjpodnmkaaDoor.BaseM Go.Proofs.YtolopkjpodnmkaaDoor.LabG Go.Proofs.YtolopkjpodnmkaaDoor.LabC Go.Proofs.YtolopkjpodnmkaaDoor.ToursI Go.Proofs.YtolopkjpodnmkaaDoor.LookS Go.Proofs.YtolopkjpodnmkaaDoor.FromS Go.Proofs.YtolopkjpodnmkaaDoor.CountT
open Go.Proofs.YtolopkjpodnmkaaDoor.RowB (sc_cell)
open Go.Proofs.YtolopkjpodnmkaaDoor.Reach (St)
open Go.Proofs.YtolopkjpodnmkaaDoor.Tour (A B isIn)
open Go.Proofs.YtolopkjpodnmkaaDoor.ByteRow (unlab)
set_option linter.unusedVariables false
set_option linter.unusedSimpArgs false

theorem prAsked_at (s : ByteArray) (x y a0 a1 a2 a3 a4 a5 : Int) (k : Nat) (hk : 3 * s.size + 10 < k) : ∃ r, spec_prAsked.f k s x y a0 a1 a2 a3 a4 a5 = some r ∧ r.2.2.2.2 = askB s x y a0 a1 a2 a3 a4 a5 ∧
    (askB s x y a0 a1 a2 a3 a4 a5 = true → r = ((wide s.data.toList : Int), (high s.data.toList : Int), ints (cells (s.data.toList.map unlab)), ints (cells s.data.toList), true)) := by
  obtain ⟨r, h1, h2, h3⟩ := prRead_at s k hk
  unfold spec_prAsked.f askB
  simp only [spec_prRead.f]
  rw [h1, Option.bind_some]
  cases hb : isB okL s.data.toList with
  | false =>
    rw [hb] at h2
    rw [if_neg (by rw [h2]; decide)]
    exact ⟨_, rfl, rfl, fun h => by cases h⟩
  | true =>
    rw [hb] at h2
    obtain rfl := h3 hb
    have hs := boState_eq _ (plainB (isB_iff.1 hb)) x y a0 a1 a2 a3 a4 a5 k (by omega)
    rw [wide_map, high_map] at hs
    rw [if_pos rfl]
    simp only [spec_boState.f]
    rw [hs, Option.bind_some, Bool.true_and]
    exact ⟨_, rfl, rfl, fun h => by rw [h]⟩
theorem count_eq (l : List UInt8) (h : IsB okL l) (k : Nat) (hk : 100 ≤ k) : QBs.spec_prCount.f k (ints (cells l)) = some (((cells l).countP digB : Nat) : Int) := by
  have h36 : (cells l).length ≤ 36 := by rw [h.cells_length]; exact h.c36
  have q := count_l0 (cells l) (by omega) (cells l).length 0 k 0 (by omega) (by omega) (by omega)
  unfold QBs.spec_prCount.f
  rw [List.drop_zero, Nat.zero_add] at q
  exact q
theorem prTour_at (s : ByteArray) (t : St) (k : Nat) (hk : 3 * s.size + 110 < k) : ∃ r, spec_prTour.f k s t.x t.y t.d.t t.d.n t.d.e t.d.s t.d.w t.d.b = some r ∧ r.2.2.2.2 = okT s t ∧
    (okT s t = true → r = ((wide s.data.toList : Int), (high s.data.toList : Int), ints (cells (s.data.toList.map unlab)), ints (cells s.data.toList), true)) := by
  obtain ⟨r, h1, h2, h3⟩ := prAsked_at s t.x t.y t.d.t t.d.n t.d.e t.d.s t.d.w t.d.b k (by omega)
  unfold spec_prTour.f okT askL
  rw [h1, Option.bind_some]
  cases hb : askB s t.x t.y t.d.t t.d.n t.d.e t.d.s t.d.w t.d.b with
  | false =>
    rw [hb] at h2
    rw [if_neg (by rw [h2]; decide)]
    exact ⟨_, rfl, rfl, fun h => by cases h⟩
  | true =>
    obtain rfl := h3 hb
    obtain ⟨hi, _, _⟩ := ask_parts hb
    rw [if_pos rfl]
    simp only [spec_prCount.f]
    rw [count_eq _ hi k (by omega), Option.bind_some, Bool.true_and]
    have e : decide ((((cells s.data.toList).countP digB : Nat) : Int) ≤ 12) = decide (nL s ≤ 12) := decide_eq_decide.2 (by unfold nL; omega)
    rw [e]
    exact ⟨_, rfl, rfl, fun h => by rw [h]⟩
/-! ### What is rolled -/
def rS (l : List UInt8) (t : St) (i : Nat) : St := if canL l t i = true then moved t i else ⟨0, 0, ⟨0, 0, 0, 0, 0, 0⟩⟩
theorem can_has {l : List UInt8} {t : St} {k : Nat} (h : canB (l.map unlab) t k = true) : hasB l (moved t k).x (moved t k).y = true := by
  rw [← has_map]
  exact floor_has h
theorem prRoll_eq (l : List UInt8) (h : IsB okL l) (t : St) (hx : 0 ≤ t.x ∧ t.x < 7) (hy : 0 ≤ t.y ∧ t.y < 7) (k : Nat) (hk : k < 4) :
    QBs.spec_prRoll.f (wide l) (high l) (ints (cells (l.map unlab))) (ints (cells l)) t.x t.y t.d.t t.d.n t.d.e t.d.s t.d.w t.d.b k = some (flat (rS l t k) (canL l t k)) := by
  have q := boRoll_eq _ (plainB h) t hx hy k hk
  rw [wide_map, high_map] at q
  unfold QBs.spec_prRoll.f rS canL
  rw [q, Option.bind_some]
  cases hc : canB (l.map unlab) t k with
  | false => rfl
  | true =>
    rw [if_pos rfl, if_pos rfl]
    simp only
    rw [prMatch_eq l h _ _ _ _ _ _ _ _ _ (can_has hc), Option.bind_some, Bool.true_and]
    show (if matchB l (moved t k).x (moved t k).y (moved t k).d.t = true then _ else _) = _
    unfold mB
    cases matchB l (moved t k).x (moved t k).y (moved t k).d.t <;> rfl
/-! ### The place of a cell -/
def ix (l : List UInt8) (u : St) : Nat := u.y.toNat * wide l + u.x.toNat
theorem gf_in {l : List UInt8} {u : St} (h : GF l u) : hasB l u.x u.y = true := by
  rw [← has_map]
  exact floor_has h.1
theorem ix_inj {l : List UInt8} (u v : St) (hu : GF l u) (hv : GF l v) : ix l u = ix l v ↔ cellOf u = cellOf v := by
  obtain ⟨⟨y0, y1⟩, x0, x1⟩ := has_iff.1 (gf_in hu)
  obtain ⟨⟨b0, b1⟩, a0, a1⟩ := has_iff.1 (gf_in hv)
  unfold ix cellOf
  constructor
  · intro h
    have hu1 : u.x.toNat < wide l := by omega
    have hv1 : v.x.toNat < wide l := by omega
    have ey : u.y.toNat = v.y.toNat := by
      have h1 : (u.y.toNat * wide l + u.x.toNat) / wide l = u.y.toNat := by
        rw [Nat.mul_comm, Nat.mul_add_div (by omega), Nat.div_eq_of_lt hu1, Nat.add_zero]
      have h2 : (v.y.toNat * wide l + v.x.toNat) / wide l = v.y.toNat := by
        rw [Nat.mul_comm, Nat.mul_add_div (by omega), Nat.div_eq_of_lt hv1, Nat.add_zero]
      rw [← h1, ← h2, h]
    rw [ey] at h
    have hx : u.x = v.x := by omega
    have hy : u.y = v.y := by omega
    rw [hx, hy]
  · intro h
    injection h with h1 h2
    rw [h1, h2]
theorem ix_at {l : List UInt8} (h : IsB okL l) (u : St) (hu : GF l u) : ix l u < (ints (cells l)).length ∧ IntKind.i64.wrap (IntKind.i64.wrap (u.y * (wide l : Int)) + u.x) = (ix l u : Int) ∧ (ints (cells l))[ix l u]? = some (cellAt l u.x u.y) := by
  have hb := gf_in hu
  obtain ⟨⟨y0, y1⟩, x0, x1⟩ := has_iff.1 hb
  unfold ix cellAt
  rw [if_pos hb]
  clear hu hb
  generalize u.y = ux at *
  generalize u.x = uy at *
  obtain ⟨yn, rfl⟩ : ∃ yn : Nat, ux = yn := ⟨ux.toNat, by omega⟩
  obtain ⟨xn, rfl⟩ : ∃ xn : Nat, uy = xn := ⟨uy.toNat, by omega⟩
  have h7 := h.h7
  have w7 := h.w7
  have hcl := h.cells_length
  have hm : yn * wide l ≤ 49 := Nat.le_trans (Nat.mul_le_mul (show yn ≤ 7 by omega) w7) (by decide)
  have hin : yn * wide l + xn < wide l * high l := by
    have a1 : yn * wide l + wide l ≤ high l * wide l := by
      rw [← Nat.succ_mul]
      exact Nat.mul_le_mul_right _ (by omega)
    rw [Nat.mul_comm (wide l)]
    omega
  simp only [Int.toNat_natCast]
  have hlen : (ints (cells l)).length = wide l * high l := by rw [show (ints (cells l)).length = (cells l).length from List.length_map .., hcl]
  refine ⟨by rw [hlen]; exact hin, ?_, ?_⟩
  · rw [i64_w, i64_w, ← Int.natCast_mul]
    unfold wrap64
    omega
  · have h2 := h.at_ yn xn (by omega) (by omega)
    have h3 : yn * wide l + xn < (cells l).length := by rw [hcl]; exact hin
    rw [← h2]
    unfold ints
    rw [List.getElem?_map, List.getElem?_eq_getElem h3]
    simp [List.getD, h3]
theorem lab_pos {s : ByteArray} (h : IsB okL s.data.toList) {t : St} (hl : labC s.data.toList t = true) : 0 < nL s := by
  refine Nat.pos_of_ne_zero fun hz => ?_
  have := lab_zero h hz t.x t.y
  unfold labC at hl
  rw [this] at hl
  cases hl
theorem cnt_eq (s : ByteArray) (h : IsB okL s.data.toList) (t : St) : (if (labC s.data.toList t && mB s.data.toList t) = true then B (canL s.data.toList) moved (labC s.data.toList) cellOf (nL s - 1) t [cellOf t] else 0) = cntT s t := by
  unfold cntT
  cases hn : nL s with
  | zero =>
    have hz : labC s.data.toList t = false := by
      cases hl : labC s.data.toList t with
      | false => rfl
      | true => have := lab_pos h hl; omega
    rw [hz, Bool.false_and, if_neg (by decide), A]
  | succ n =>
    rw [Tour.A_eq _ _ _ _ _ (fun u i h_ => by
      unfold canL at h_
      rw [Bool.and_eq_true] at h_
      exact h_.2)]
    have e : isIn (cellOf t) [] = false := rfl
    rw [e, Bool.not_false, Bool.and_true]
    rfl
set_option maxHeartbeats 4000000 in
set_option maxRecDepth 100000 in
theorem count_walk (s : ByteArray) (hs : s.size ≤ 1048576) (t : St) (w : World) : Calls Tryd.prog 4 #[.string s, .agg (st8 t)] w fun e w' =>
    e = .returned (.tuple #[.int .i64 (if okT s t = true then (cntT s t : Int) else 0), .bool (okT s t)]) ∧ Below w.heap.size w w' := by
  obtain ⟨⟨r1, r2, r3, r4, r5⟩, h1, h2, h3⟩ := prTour_at s t (3 * s.size + 111) (by omega)
  have HC := Go.Lib.hid (fun W => spec_prTour.calls _ _ _ _ _ _ _ _ _ _ _ _ _ _ _ W h1)
  simp only at h2
  subst h2
  obtain ⟨q, hq⟩ : ∃ q, q = okT s t := ⟨_, rfl⟩
  have HQ := Go.Lib.hid hq
  rw [← hq] at HC h3 ⊢
  clear hq h1
  cases q with
  | false =>
    rw [if_neg (by decide)]
    clear h3
    go_enter Tryd.func4, Tryd.ntmps4
    go_wp2_with fail
    refine (HC.out _).mono ?_
    rintro e' w1 ⟨v2, v3, rfl, hr2, _, hb⟩
    obtain ⟨A2, c2, rfl, _, _⟩ := Kd.R_reads hr2
    have HB := Go.Lib.hid (below_then ((Below.refl _ w).alloc (Nat.le_refl _) (.cells (st8 t) 30)) (by simp) hb)
    have HS := Go.Lib.hid HB.out.size
    clear hb HC
    go_wp2_with fail
    go_ret2
    exact ⟨rfl, HB.out.alloc HS.out _⟩
  | true =>
    rw [if_pos rfl]
    have h4 := h3 rfl
    simp only [Prod.mk.injEq] at h4
    obtain ⟨rfl, rfl, rfl, rfl, _⟩ := h4
    clear h3
    have hok := HQ.out.symm
    unfold okT at hok
    rw [Bool.and_eq_true, decide_eq_true_eq] at hok
    obtain ⟨hi, hgf⟩ := ask_gf hok.1
    obtain ⟨cnt, hcnt⟩ : ∃ cnt, cnt = cntT s t := ⟨_, rfl⟩
    rw [← hcnt]
    have HCNT := Go.Lib.hid hcnt
    have HN := Go.Lib.hid hok.2
    have HI := Go.Lib.hid hi
    have HGF := Go.Lib.hid hgf
    clear hok hi hgf hcnt
    go_enter Tryd.func4, Tryd.ntmps4
    go_wp2_with fail
    refine (HC.out _).mono ?_
    rintro e' w1 ⟨v2, v3, rfl, hr2, hr3, hb⟩
    have HB := Go.Lib.hid (below_then ((Below.refl _ w).alloc (Nat.le_refl _) (.cells (st8 t) 30)) (by simp) hb)
    have HBX := Go.Lib.hid (blk_below (blk_new w (.cells (st8 t) 30)) hb)
    have hlen : (ints (cells s.data.toList)).length = wide s.data.toList * high s.data.toList := by rw [show (ints (cells s.data.toList)).length = (cells s.data.toList).length from List.length_map .., HI.out.cells_length]
    have hc36 : wide s.data.toList * high s.data.toList ≤ 36 := HI.out.c36
    obtain ⟨gL, hgL, gI⟩ := ix_at HI.out t HGF.out
    obtain ⟨A2, c2, rfl, hc2, hC2⟩ := Kd.R_reads hr2
    obtain ⟨A1, c1, f1, hc1, hC1⟩ := Kd.R_reads hr3
    obtain ⟨bL, cL, f2, _, _⟩ := Kd.R_form hr3 (by omega)
    rw [f1] at f2
    injection f2 with f3 f4 f5
    subst f1 f3 f5
    obtain ⟨VC, hVC⟩ : ∃ VC : Value, VC = .slice A2 (ints (cells (s.data.toList.map unlab))).length c2 := ⟨_, rfl⟩
    have hcell : ∀ u, GF s.data.toList u → w1.cell? ⟨bL, ix s.data.toList u, none⟩ = some (.int .u8 (cellAt s.data.toList u.x u.y)) := fun u hu => (sc_cell hr3 _ _ (ix_at HI.out u hu).2.2).1
    have hroll : ∀ (u : St) (i : Nat) (W : World), GdL s.data.toList u → i < 4 → Below w1.heap.size w1 W → Calls Tryd.prog 23 #[.agg #[.int .i64 (wide s.data.toList : Int), .int .i64 (high s.data.toList : Int), VC], .slice (some ⟨bL, 0, none⟩) (ints (cells s.data.toList)).length c1, .agg (st8 u), .int .i64 ((i : Nat) : Int)] W fun e w' => e = .returned (.tuple #[.agg (st8 (rS s.data.toList u i)), .bool (canL s.data.toList u i)]) ∧ Below W.heap.size W w' := fun u i W hu hi4 hW => by
      rw [hVC]
      obtain ⟨⟨y0, y1⟩, x0, x1⟩ := has_iff.1 (gf_in hu.1)
      have h7 := HI.out.h7
      have w7 := HI.out.w7
      exact QBs.spec_prRoll.calls _ _ _ _ _ _ _ _ _ _ _ _ _ _ _ _ _ _ _ _ _ _ _ _ _ _ W (Kd.C_below hC2 hW) hc2 (Kd.C_below hC1 hW) hc1 (prRoll_eq s.data.toList HI.out u ⟨by omega, by omega⟩ ⟨by omega, by omega⟩ i hi4)
    have hdig : ∀ (u : St) (W : World), GF s.data.toList u → Below w1.heap.size w1 W → Calls Tryd.prog 15 #[.int .u8 (cellAt s.data.toList u.x u.y)] W fun e w' => e = .returned (.bool (labC s.data.toList u)) ∧ Below W.heap.size W w' := fun u W _ _ =>
      (QBs.spec_prDigit.calls _ _ W (by
        unfold QBs.spec_prDigit.f labC
        by_cases h48 : cellAt s.data.toList u.x u.y ≥ 48
        · rw [if_pos h48, decide_eq_true (show 48 ≤ cellAt s.data.toList u.x u.y from h48), Bool.true_and]
        · rw [if_neg h48, decide_eq_false (show ¬ 48 ≤ cellAt s.data.toList u.x u.y from h48), Bool.false_and])).mono fun e w' ⟨he, hd⟩ => ⟨he, hd.below⟩
    have hcount : ∀ W : World, Below w1.heap.size w1 W → Calls Tryd.prog 14 #[.slice (some ⟨bL, 0, none⟩) (ints (cells s.data.toList)).length c1] W fun e w' => e = .returned (.int .i64 ((nL s : Nat) : Int)) ∧ Below W.heap.size W w' := fun W hW =>
      (QBs.spec_prCount.calls 100 _ _ _ _ W (Kd.C_below hC1 hW) hc1 (count_eq _ HI.out 100 (by omega))).mono fun e w' ⟨he, hd⟩ => ⟨he, hd.below⟩
    have hmat : ∀ W : World, Below w1.heap.size w1 W → Calls Tryd.prog 16 #[.agg #[.int .i64 (wide s.data.toList : Int), .int .i64 (high s.data.toList : Int), VC], .slice (some ⟨bL, 0, none⟩) (ints (cells s.data.toList)).length c1, .agg (st8 t)] W fun e w' => e = .returned (.bool (mB s.data.toList t)) ∧ Below W.heap.size W w' := fun W hW => by
      rw [hVC]
      exact QBs.spec_prMatch.calls _ _ _ _ _ _ _ _ _ _ _ _ _ _ _ _ _ W (Kd.C_below hC2 hW) hc2 (Kd.C_below hC1 hW) hc1 (prMatch_eq s.data.toList HI.out _ _ _ _ _ _ _ _ _ (gf_in HGF.out))
    have HF := Go.Lib.hid (fun W (hW : Below w1.heap.size w1 W) => from_walk (labC s.data.toList) (fun u => cellAt s.data.toList u.x u.y) (canL s.data.toList) (rS s.data.toList) (ix s.data.toList) (GdL s.data.toList) (GF s.data.toList) (wide s.data.toList : Int) (high s.data.toList : Int) VC bL c1 (ints (cells s.data.toList)).length (nL s) (mB s.data.toList t) t W ⟨by omega, by omega⟩ HN.out (lab_pos HI.out) HGF.out (fun h_ => ⟨HGF.out, h_⟩)
      (fun n u seen => Tour.B_le _ _ _ _ n u seen) (fun u i h_ hc_ => ⟨if_pos hc_, ((rules HI.out).go u i h_ hc_).1, fun _ => ⟨((rules HI.out).go u i h_ hc_).1, by unfold canL at hc_; rw [Bool.and_eq_true] at hc_; exact hc_.2⟩⟩) ix_inj
      (fun u hu => ⟨(ix_at HI.out u hu).1, (ix_at HI.out u hu).2.1, pw_cell_below hW (hcell u hu)⟩)
      (fun u i W' h_ hi4 hW' => hroll u i W' h_ hi4 (below_then hW hW.size hW')) (fun u W' h_ hW' => hdig u W' h_ (below_then hW hW.size hW')) (fun W' hW' => hcount W' (below_then hW hW.size hW')) (fun W' hW' => hmat W' (below_then hW hW.size hW')))
    have hce := cnt_eq s HI.out t
    rw [← HCNT.out] at hce
    rw [hce] at HF
    obtain ⟨gw, hgw⟩ : ∃ gw : Int, gw = (wide s.data.toList : Int) := ⟨_, rfl⟩
    obtain ⟨gh, hgh⟩ : ∃ gh : Int, gh = (high s.data.toList : Int) := ⟨_, rfl⟩
    obtain ⟨N, hN⟩ : ∃ N, N = (ints (cells s.data.toList)).length := ⟨_, rfl⟩
    rw [← hgw, ← hgh, ← hN] at HF
    rw [← hgw, ← hgh, ← hN]
    rw [hVC] at HF
    clear hVC
    obtain ⟨n2, hn2⟩ : ∃ n2, n2 = (ints (cells (s.data.toList.map unlab))).length := ⟨_, rfl⟩
    rw [← hn2] at HF ⊢
    clear hn2 hgw hgh hN hce hmat hcount hdig hroll hcell hC1 hC2 hc1 hc2 hr2 hr3 hb gL hgL gI hlen hc36 HC f4
    go_upto_region 4 with fail
    have n_HB := Go.Lib.hid (HB.out.alloc HB.out.size (.cells #[.int .i64 gw, .int .i64 gh, .slice A2 n2 c2] 35))
    have n_B1 := Go.Lib.hid (show Below w1.heap.size w1 (w1.alloc (.cells #[.int .i64 gw, .int .i64 gh, .slice A2 n2 c2] 35)) from (Below.refl _ w1).alloc (Nat.le_refl _) _)
    have n_BX := Go.Lib.hid (blk_alloc HBX.out (.cells #[.int .i64 gw, .int .i64 gh, .slice A2 n2 c2] 35))
    have n_GX := Go.Lib.hid (blk_new w1 (.cells #[.int .i64 gw, .int .i64 gh, .slice A2 n2 c2] 35))
    obtain ⟨G, hG⟩ : ∃ G, G = w1.heap.size := ⟨_, rfl⟩
    rw [← hG] at n_GX ⊢
    clear hG
    generalize World.alloc _ _ = w2 at n_HB n_B1 n_BX n_GX ⊢
    have g0_ : w2.cell? ⟨G, 0, none⟩ = some (.int .i64 gw) := blk_cell n_GX.out 0
    have g1_ : w2.cell? ⟨G, 1, none⟩ = some (.int .i64 gh) := blk_cell n_GX.out 1
    have g2_ : w2.cell? ⟨G, 2, none⟩ = some (.slice A2 n2 c2) := blk_cell n_GX.out 2
    have m0_ : w2.cell? ⟨w.heap.size, 0, none⟩ = some (.int .i64 t.x) := blk_cell n_BX.out 0
    have m1_ : w2.cell? ⟨w.heap.size, 1, none⟩ = some (.int .i64 t.y) := blk_cell n_BX.out 1
    have m2_ : w2.cell? ⟨w.heap.size, 2, none⟩ = some (.int .i64 t.d.t) := blk_cell n_BX.out 2
    have m3_ : w2.cell? ⟨w.heap.size, 3, none⟩ = some (.int .i64 t.d.n) := blk_cell n_BX.out 3
    have m4_ : w2.cell? ⟨w.heap.size, 4, none⟩ = some (.int .i64 t.d.e) := blk_cell n_BX.out 4
    have m5_ : w2.cell? ⟨w.heap.size, 5, none⟩ = some (.int .i64 t.d.s) := blk_cell n_BX.out 5
    have m6_ : w2.cell? ⟨w.heap.size, 6, none⟩ = some (.int .i64 t.d.w) := blk_cell n_BX.out 6
    have m7_ : w2.cell? ⟨w.heap.size, 7, none⟩ = some (.int .i64 t.d.b) := blk_cell n_BX.out 7
    have HF2 := Go.Lib.hid (HF.out w2 n_B1.out)
    go_wp2_with fail
    refine HF2.out.mono ?_
    rintro e' w3 ⟨T, bS, cS, fst, lf, rfl, hb, hcc⟩
    have c7_ : w3.cell? ⟨T, 7, none⟩ = some (.int .i64 (cnt : Int)) := blk_cell hcc 7
    have HB3 := Go.Lib.hid (below_then n_HB.out n_HB.out.size hb)
    clear hb hcc m0_ m1_ m2_ m3_ m4_ m5_ m6_ m7_ g0_ g1_ g2_ HF2 HF
    go_wp2_with fail
    go_ret2
    exact ⟨rfl, HB3.out⟩
end Go.Proofs.YtolopkjpodnmkaaDoor.TourS
