/- The program's LeastSum, walked. Conditions: a text of no more than 2^20 bytes. -/
import Derived.Test.YtkoejpimalbhbaaDoorPricesS
namespace Go.Proofs.YtkoejpimalbhbaaDoor.LeastS
set_option maxHeartbeats 4000000
set_option maxRecDepth 100000
open Go.Lib (hid)
open Go.RowKit Go.Proofs.YtkoejpimalbhbaaDoorW.PrintWords Go.Proofs.YtkoejpimalbhbaaDoorW.PrintLast Go.Proofs.YtkoejpimalbhbaaDoor.QBo Go.Proofs.YtkoejpimalbhbaaDoor.Board Go.Proofs.YtkoejpimalbhbaaDoor.BaseR Go.Proofs.YtkoejpimalbhbaaDoor.ReachR Go.Proofs.YtkoejpimalbhbaaDoor.Search Go.Proofs.YtkoejpimalbhbaaDoor.On Go.Proofs.YtkoejpimalbhbaaDoor.To Go.Proofs.YtkoejpimalbhbaaDoor.Maps Go.Proofs.YtkoejpimalbhbaaDoor.PriceG Go.Proofs.YtkoejpimalbhbaaDoor.PricesS
open Go.Proofs.YtkoejpimalbhbaaDoor.Reach (St)
open Go.Proofs.YtkoejpimalbhbaaDoor.Reached (byt mvf)
set_option linter.unusedVariables false
set_option linter.unusedSimpArgs false

def goesB (s : ByteArray) (t u : St) : Bool := toOk s t u && decide (0 ≤ atI (found (fl s) t) u)
def sumI (f : Int → Int → Bool) (L : Bfs.Nodes St) (j : Int) : Int := ((Price.leastP (nxL f L) (topL L) 0 j.toNat).getD (-1, 0)).1
theorem sum_of {nx : Nat → Nat → Option Nat} {top : Nat → Int} {a k : Nat} {p : Int × Int} (h : Price.leastP nx top a k = some p) : p.1 = ((Price.leastP nx top a k).getD (-1, 0)).1 := by
 rw [h]
 rfl
theorem sum_nat (f : Int → Int → Bool) (L : Bfs.Nodes St) (j : Nat) : sumI f L (j : Int) = ((Price.leastP (nxL f L) (topL L) 0 j).getD (-1, 0)).1 := by
 unfold sumI
 rw [Int.toNat_natCast]
attribute [local go_sem high] Go.Proofs.YtkoejpimalbhbaaDoor.QBs.eqA30
theorem eq_walk (x y : St) (X : Nat) (W : World) (hX : W.heap[X]? = some (.cells (st8 y) 30 (0, 0))) :
  Calls Tryd.prog 22 #[.agg (st8 x), .pointer (some ⟨X, 0, none⟩)] W fun e w' => e = .returned (.bool (decide (x = y))) ∧ Below W.heap.size W w' := by
 rw [← beqSt]
 have h2 := blk_alloc hX (.cells (st8 x) 30)
 have y0 : (W.alloc (.cells (st8 x) 30)).cell? ⟨X, 0, none⟩ = some (.int .i64 y.x) := blk_cell h2 0
 have y1 : (W.alloc (.cells (st8 x) 30)).cell? ⟨X, 1, none⟩ = some (.int .i64 y.y) := blk_cell h2 1
 have y2 : (W.alloc (.cells (st8 x) 30)).cell? ⟨X, 2, none⟩ = some (.int .i64 y.d.t) := blk_cell h2 2
 have y3 : (W.alloc (.cells (st8 x) 30)).cell? ⟨X, 3, none⟩ = some (.int .i64 y.d.n) := blk_cell h2 3
 have y4 : (W.alloc (.cells (st8 x) 30)).cell? ⟨X, 4, none⟩ = some (.int .i64 y.d.e) := blk_cell h2 4
 have y5 : (W.alloc (.cells (st8 x) 30)).cell? ⟨X, 5, none⟩ = some (.int .i64 y.d.s) := blk_cell h2 5
 have y6 : (W.alloc (.cells (st8 x) 30)).cell? ⟨X, 6, none⟩ = some (.int .i64 y.d.w) := blk_cell h2 6
 have y7 : (W.alloc (.cells (st8 x) 30)).cell? ⟨X, 7, none⟩ = some (.int .i64 y.d.b) := blk_cell h2 7
 clear hX h2
 go_enter Tryd.func22, Tryd.ntmps22
 go_wp2_with fail
 go_ret
 exact ⟨by first | rfl | (simp only [Bool.and_assoc]; done) | (simp only [Bool.and_assoc]; rfl), (Below.refl _ W).alloc (Nat.le_refl _) _⟩
theorem least_walk (s : ByteArray) (hs : s.size ≤ 1048576) (t u : St) (w : World) : Calls Tryd.prog 9 #[.string s, .agg (st8 t), .agg (st8 u)] w fun e w' =>
  e = .returned (.tuple #[.int .i64 (if goesB s t u = true then sumI (fl s) (found (fl s) t) (atI (found (fl s) t) u) else 0), .bool (goesB s t u)]) ∧ Below w.heap.size w w' := by
 unfold goesB
 cases ha : toOk s t u with
 | false =>
  have HC := hid (fun W => to_no s hs t u ha W)
  rw [Bool.false_and, if_neg (by decide)]
  clear ha
  go_enter Tryd.func9, Tryd.ntmps9
  go_wp2_with fail
  refine (HC.out _).mono ?_
  rintro e' w1 ⟨rfl, hb⟩
  have HB := hid (below_then (((Below.refl _ w).alloc (Nat.le_refl _) (.cells (st8 t) 30)).alloc (by simp) (.cells (st8 u) 30)) (by simp; omega) hb)
  clear hb
  go_wp2_with fail
  go_ret2
  exact ⟨rfl, HB.out⟩
 | true =>
  obtain ⟨hi, hg⟩ := ask_iff.1 (by unfold toOk at ha; rw [Bool.and_eq_true] at ha; exact ha.1)
  have HC := hid (fun W => to_yes s hs t u ha W)
  have hd := found_done (box hi) hg
  have hlen := found_length (box hi) hg
  have hgd := fun x hx => found_gd (box hi) hg (x := x) hx
  have HROLL := hid (fun sx hx i h4 A0 c0 W hr hc => roll_calls s hi sx hx i h4 A0 c0 W hr hc)
  obtain ⟨g, h1, h2⟩ := board_at s hs (s.size + 3) (by omega)
  obtain rfl := h2 (isB_iff.2 hi)
  rw [isB_iff.2 hi] at h1
  have HCB := hid (fun W => impl_board.calls _ _ _ _ W h1)
  have HP := hid (grid_pos s hi)
  rw [Bool.true_and]
  clear ha h1 h2 hi hg
  obtain ⟨fl0, hfl⟩ : ∃ fl0, fl0 = fl s := ⟨_, rfl⟩
  have hfl2 : floorB s.data.toList = fl0 := hfl.symm
  rw [hfl2] at hd hlen hgd
  rw [← hfl] at HC HROLL ⊢
  obtain ⟨gr, hgr⟩ : ∃ gr, gr = gridOf s := ⟨_, rfl⟩
  rw [← hgr] at HCB HP HROLL
  obtain ⟨L, hL⟩ : ∃ L, L = found fl0 t := ⟨_, rfl⟩
  rw [← hL] at hd hlen hgd HC ⊢
  clear hL hgr hfl hfl2
  by_cases hlt : 0 ≤ atI L u
  ·obtain ⟨j, wd0, hj, hx⟩ := At.at_some hlt
   rw [if_pos (decide_eq_true hlt), decide_eq_true hlt]
   rw [hj] at HC ⊢
   have hjn : j < L.length := (List.getElem?_eq_some_iff.1 hx).1
   have htop : ∀ x ∈ L, 0 ≤ x.1.d.t ∧ x.1.d.t ≤ 9 := fun x hx => (good_iff (hgd x hx).2).1
   have hG := graph hd htop (by omega)
   have hT : ∀ k, k < L.length → (TL (fun x => decide (x = u)) L k = true ↔ k = j) := fun k hk => by
    unfold TL
    rw [List.getElem?_eq_getElem hk]
    simp only [decide_eq_true_eq]
    constructor
    ·intro e
     exact apart_at hd.apart (List.getElem?_eq_getElem hk) hx e
    ·intro e
     subst e
     have := List.getElem?_eq_getElem hk
     rw [hx] at this
     injection this with this
     rw [← this]
   have HFIN := hid (show ∀ g, IV L.length fl0 (fun x => decide (x = u)) L g → (∀ a, a < L.length → ∀ d, d < 4 → FX fl0 L g a d) → (g 0).1 = sumI fl0 L (j : Int) from fun g hI hF => by
    obtain ⟨p, hp⟩ := path_to hd j hjn
    rw [sum_nat]
    exact sum_of (Price.inv_leastP hG hI hF hT hG.pos hjn hp))
   obtain ⟨ans, hans⟩ : ∃ ans, ans = sumI fl0 L (j : Int) := ⟨_, rfl⟩
   rw [← hans] at HFIN ⊢
   have HJ := hid (And.intro hG.pos hG.small)
   have HD := hid hd
   have HGD := hid (And.intro hgd htop)
   clear hlt hj hx hans hjn hd hlen hgd htop hG hT
   go_enter Tryd.func9, Tryd.ntmps9
   go_wp2_with fail
   refine (HC.out _).mono ?_
   rintro e' w1 ⟨Br, M, v0, v1, v2, v3, rfl, hrs⟩
   have hX : w1.heap[w.heap.size + 1]? = some (.cells (st8 u) 30 (0, 0)) := by
    have := blk_below (blk_new (w.alloc (.cells (st8 t) 30)) (.cells (st8 u) 30)) hrs.bel
    simpa using this
   have HRS1 := hid (RS_lower hrs (((Below.refl _ w).alloc (Nat.le_refl _) (.cells (st8 t) 30)).alloc (by simp) (.cells (st8 u) 30)))
   have HX := hid hX
   have hj0 : (0 : Int) ≤ (j : Int) := by omega
   have hj0' : ¬ (j : Int) < 0 := by omega
   clear hrs HC hX
   go_wp2_with fail
   refine (HCB.out _).mono ?_
   rintro e' w5 ⟨vg, rfl, hr, hb⟩
   obtain ⟨gb, gc, hv, _, _⟩ := R_form hr HP.out
   subst hv
   have hC := (Kd.R_reads' hr).2.2
   have hc := (Kd.R_reads' hr).2.1
   have hrs := RS.below HRS1.out hb
   have hX5 := blk_below HX.out hb
   have HW := hid (prices_walk (fun x => decide (x = u)) fl0 t HD.out HGD.out.2 HJ.out.2 (w.heap.size + 1) w w5 Br M gb gr.length gc v0 v1 v2 v3 hrs
    (fun sx hsx i hi W hW => by
     obtain ⟨x, hx, rfl⟩ := List.mem_map.1 hsx
     exact HROLL.out x.1 (HGD.out.1 x hx) i hi _ _ W (Kd.C_below hC hW) hc)
    (fun sx W hW => eq_walk sx u _ W (blk_below hX5 hW)))
   have HB := hid hrs.bel
   clear hr hb hrs HRS1 HP HCB hC hc hX5 HX HROLL
   go_wp2_with fail
   refine HW.out.mono ?_
   rintro e' w6 ⟨b7, c7, g, rfl, hR, hI, hF, hB⟩
   have HB2 := hid (below_then HB.out HB.out.size hB)
   obtain ⟨⟨p0_, _⟩, _, _⟩ := pr_cells hR 0 _ (row_at g HJ.out.1)
   rw [HFIN.out g hI hF, Nat.zero_mul] at p0_
   have hn0 : (0 : Int) < (L.length : Int) := by have := HJ.out.1; omega
   clear hR hI hF hB HW HB
   go_wp2_with fail
   go_ret2
   exact ⟨by first | rfl | (simp; done) | (simp [*]; done), HB2.out⟩
  ·rw [if_neg (by simpa using hlt), decide_eq_false hlt]
   have hj := At.at_neg hlt
   rw [hj] at HC
   clear hlt hj
   go_enter Tryd.func9, Tryd.ntmps9
   go_wp2_with fail
   refine (HC.out _).mono ?_
   rintro e' w1 ⟨B, M, v0, v1, v2, v3, rfl, hrs⟩
   have HB := hid (below_then (((Below.refl _ w).alloc (Nat.le_refl _) (.cells (st8 t) 30)).alloc (by simp) (.cells (st8 u) 30)) (by simp; omega) hrs.bel)
   clear hrs
   go_wp2_with fail
   go_ret2
   exact ⟨rfl, HB.out⟩
end Go.Proofs.YtkoejpimalbhbaaDoor.LeastS
