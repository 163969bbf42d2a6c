/- The program's CheapestWay, walked. Conditions: a text of no more than 2^20 bytes. -/
import Derived.Test.YtkoejpimalbhbaaDoorCellR
import Derived.Test.YtkoejpimalbhbaaDoorPricesC
import Derived.Test.YtkoejpimalbhbaaDoorCheap
import Derived.OwnWalk
import Derived.Deep.LoopGhost
import Derived.Deep.QuietTactic
import Derived.BigQuiet
import Derived.Deep.CutBlock
import Derived.Deep.RegionHeld3
import Derived.Deep.RegionWith
import Derived.Deep.DeepCutAuto
import Derived.Lib.Hide
import Derived.Carry
import Derived.IntWalk
namespace Go.Proofs.YtkoejpimalbhbaaDoor.CheapI
open Go.Lib (hid)
open Go.RowKit Go.Proofs.YtkoejpimalbhbaaDoorW.PrintWords Go.Proofs.YtkoejpimalbhbaaDoorW.PrintLast Go.Proofs.YtkoejpimalbhbaaDoor.QBo Go.Proofs.YtkoejpimalbhbaaDoor.Board Go.Proofs.YtkoejpimalbhbaaDoor.BaseR Go.Proofs.YtkoejpimalbhbaaDoor.ReachR Go.Proofs.YtkoejpimalbhbaaDoor.Search Go.Proofs.YtkoejpimalbhbaaDoor.On Go.Proofs.YtkoejpimalbhbaaDoor.Maps Go.Proofs.YtkoejpimalbhbaaDoor.PriceG Go.Proofs.YtkoejpimalbhbaaDoor.PricesC Go.Proofs.YtkoejpimalbhbaaDoor.CellR
open Go.Proofs.YtkoejpimalbhbaaDoor.Reach (St)
open Go.Proofs.YtkoejpimalbhbaaDoor.Reached (byt mvf)
open Go.Proofs.YtkoejpimalbhbaaDoor.Cheap (letter letter_size leastT wayT pickF cheap)
set_option linter.unusedVariables false
set_option linter.unusedSimpArgs false

def cheapI (s : ByteArray) (t : St) (x y : Int) : ByteArray × Int × Bool := if cellOk s t x y = true then cheap (nxL (fl s) (found (fl s) t)) (topL (found (fl s) t)) (TL (test x y) (found (fl s) t)) else (⟨#[]⟩, 0, false)
theorem eqP (d : Nat) (w : World) (x0 y0 x1 y1 : Int) : (Op.equalIn (d + 2) 60 (.agg #[.int .i64 x0, .int .i64 x1]) (.agg #[.int .i64 y0, .int .i64 y1])).run Tryd.prog w = .ok (x0 == y0 && (x1 == y1)) w := by
 refine eqA_of Tryd.underlying60 (by kernel_rfl) ?_
 refine eqf_cons (by rfl) (by go_simp; rfl) (by go_simp; rfl) (by go_simp) ?_
 exact eqf_last (by rfl) (by go_simp; rfl) (by go_simp; rfl) (by go_simp)
attribute [local go_sem high] eqP
theorem slice_dir (i : Nat) (hi : i < 4) (W : World) : (Instr.slice 9 (.string ⟨#[110, 101, 115, 119]⟩) (some (.int .i64 (i : Int))) (some (.int .i64 ((i : Int) + 1))) none).run Tryd.prog W = .ok (.string (letter i)) W := by
 rcases i with _ | _ | _ | _ | i
 ·go_simp; rfl
 ·go_simp; rfl
 ·go_simp; rfl
 ·go_simp; rfl
 ·omega
theorem place_of {L : Bfs.Nodes St} (ha : L.Pairwise fun x y => x.1 ≠ y.1) {p : Nat} {x : St × List Nat} (hx : L[p]? = some x) : Maps.place x.1 0 (L.map (·.1)) = some p := by
 obtain ⟨q, hq⟩ := place_in (u := x.1) (l := L.map (·.1)) (j := 0) (List.mem_map.2 ⟨_, List.mem_of_getElem? hx, rfl⟩)
 obtain ⟨_, h2⟩ := At.place_get hq
 rw [Nat.sub_zero, List.getElem?_map] at h2
 cases hy : L[q]? with
 | none => rw [hy] at h2; cases h2
 | some y =>
  rw [hy, Option.map_some] at h2
  injection h2 with h2
  have := apart_at ha hx hy h2.symm
  subst this
  exact hq
def chi.T8 : Bool × List (List Nat × List Nat) := (true, [([], []), ([], []), ([1], []), ([1, 0, 2, 0, 1, 2], [0, 1])])
def chi.B8 : List Nat := [0, 0, 2, 7]
theorem chi.tab8 : rtab .any (opsOf Tryd.f7 8) = chi.T8 := by kernel_rfl
theorem chi.bits8 : waitsOk chi.T8.2 chi.B8 = true := by kernel_rfl
def chi.T10 : Bool × List (List Nat × List Nat) := (true, [([], []), ([], []), ([1], [1]), ([2], [2]), ([3], [3]), ([], []), ([4, 5], [4, 5]), ([0, 6], [0, 6]), ([7], [7]), ([], []), ([9, 8, 0, 1, 2, 3, 4, 5, 6, 7, 8, 9], [8, 9])])
def chi.B10 : List Nat := [0, 0, 2, 6, 14, 0, 62, 127, 255, 0, 1023]
theorem chi.tab10 : rtab .any (opsOf Tryd.f7 10) = chi.T10 := by kernel_rfl
theorem chi.bits10 : waitsOk chi.T10.2 chi.B10 = true := by kernel_rfl
def chi.T14 : Bool × List (List Nat × List Nat) := (true, [([], []), ([], []), ([], []), ([2], [2]), ([0, 1, 3], [0, 1, 3]), ([4], [4]), ([5], [5]), ([5], [5]), ([], []), ([8, 6, 4, 0, 1, 2, 3, 4, 5, 6, 8], [6, 8]), ([7, 9, 0, 1, 2, 3, 4, 5, 6, 7, 8, 9], [7])])
def chi.B14 : List Nat := [0, 0, 0, 4, 15, 31, 63, 63, 0, 383, 1023]
theorem chi.tab14 : rtab .any (opsOf Tryd.f7 14) = chi.T14 := by kernel_rfl
theorem chi.bits14 : waitsOk chi.T14.2 chi.B14 = true := by kernel_rfl
def chi.T16 : Bool × List (List Nat × List Nat) := (true, [([], []), ([], []), ([], []), ([2], [2]), ([1, 3], [1, 3]), ([0, 4], [0, 4]), ([], []), ([5, 0, 1, 2, 3, 4, 5], [0, 5]), ([6, 7, 0, 1, 2, 3, 4, 5, 6, 7], [6])])
def chi.B16 : List Nat := [0, 0, 0, 4, 14, 31, 0, 63, 255]
theorem chi.tab16 : rtab .any (opsOf Tryd.f7 16) = chi.T16 := by kernel_rfl
theorem chi.bits16 : waitsOk chi.T16.2 chi.B16 = true := by kernel_rfl
set_option maxHeartbeats 8000000 in
set_option maxRecDepth 100000 in
theorem cheap_walk (s : ByteArray) (hs : s.size ≤ 1048576) (t : St) (x y : Int) (w : World) :
  Calls Tryd.prog 7 #[.string s, .agg (st8 t), .int .i64 x, .int .i64 y] w fun e w' => e = .returned (.tuple #[.string (cheapI s t x y).1, .int .i64 (cheapI s t x y).2.1, .bool (cheapI s t x y).2.2]) ∧ Below w.heap.size w w' := by
 obtain ⟨res, hres⟩ : ∃ res, res = cheapI s t x y := ⟨_, rfl⟩
 rw [← hres]
 have HRES := hid hres
 have HC := hid (fun W => cell_walk s hs t x y W)
 clear hres
 go_enter Tryd.func7, Tryd.ntmps7
 go_wp2_with fail
 refine (HC.out _).mono ?_
 rintro e' w1 ⟨hb, ⟨hc, rfl⟩ | ⟨hc, Br, M, v0, v1, v2, v3, rfl, hrs⟩⟩
 ·have HB := hid (below_then ((((Below.refl _ w).alloc (Nat.le_refl _) (.cells (st8 t) 30)).alloc (by simp) (.cells #[.int .i64 x] 3)).alloc (by simp; omega) (.cells #[.int .i64 y] 3)) (by simp; omega) hb)
  have hfin : Ending.returned (.tuple #[.string ⟨#[]⟩, .int .i64 0, .bool false]) = Ending.returned (.tuple #[.string res.1, .int .i64 res.2.1, .bool res.2.2]) := by
   rw [HRES.out]
   unfold cheapI
   rw [hc, if_neg (by decide)]
  clear hb hc
  go_wp2_with fail
  go_ret3
  exact ⟨hfin, HB.out⟩
 ·have hX : w1.heap[w.heap.size + 1]? = some (.cells #[.int .i64 x] 3 (0, 0)) := by
   have := blk_below (blk_alloc (blk_new (w.alloc (.cells (st8 t) 30)) (.cells #[.int .i64 x] 3)) (.cells #[.int .i64 y] 3)) hb
   simpa using this
  have hY : w1.heap[w.heap.size + 1 + 1]? = some (.cells #[.int .i64 y] 3 (0, 0)) := by
   have := blk_below (blk_new ((w.alloc (.cells (st8 t) 30)).alloc (.cells #[.int .i64 x] 3)) (.cells #[.int .i64 y] 3)) hb
   simpa using this
  have hS : w1.heap[w.heap.size]? = some (.cells (st8 t) 30 (0, 0)) := by
   have := blk_below (blk_alloc (blk_alloc (blk_new w (.cells (st8 t) 30)) (.cells #[.int .i64 x] 3)) (.cells #[.int .i64 y] 3)) hb
   simpa using this
  have HFIN := hid (show res = cheap (nxL (fl s) (found (fl s) t)) (topL (found (fl s) t)) (TL (test x y) (found (fl s) t)) by
   rw [HRES.out]
   unfold cheapI
   rw [hc, if_pos rfl])
  unfold cellOk at hc
  rw [Bool.and_eq_true] at hc
  obtain ⟨hi, hg⟩ := ask_iff.1 hc.1
  have hd := found_done (box hi) hg
  have hlen := found_length (box hi) hg
  have hgd := fun x hx => found_gd (box hi) hg (x := x) hx
  have HROLL := hid (fun sx hx i h4 A0 c0 W hr hc => roll_calls s hi sx hx i h4 A0 c0 W hr hc)
  obtain ⟨gd, h1, h2⟩ := board_at s hs (s.size + 3) (by omega)
  obtain rfl := h2 (isB_iff.2 hi)
  rw [isB_iff.2 hi] at h1
  have HCB := hid (fun W => impl_board.calls _ _ _ _ W h1)
  have HP := hid (grid_pos s hi)
  clear h1 h2 hi hg hc HRES HC
  obtain ⟨fl0, hfl⟩ : ∃ fl0, fl0 = fl s := ⟨_, rfl⟩
  have hfl2 : floorB s.data.toList = fl0 := hfl.symm
  rw [hfl2] at hd hlen hgd
  rw [← hfl] at HFIN HROLL hrs
  obtain ⟨gr, hgr⟩ : ∃ gr, gr = gridOf s := ⟨_, rfl⟩
  rw [← hgr] at HCB HP HROLL
  obtain ⟨L, hL⟩ : ∃ L, L = found fl0 t := ⟨_, rfl⟩
  rw [← hL] at hd hlen hgd HFIN hrs
  clear hL hgr hfl hfl2
  have htop : ∀ x ∈ L, 0 ≤ x.1.d.t ∧ x.1.d.t ≤ 9 := fun x hx => (good_iff (hgd x hx).2).1
  have HG := hid (graph hd htop (by omega))
  have HD := hid hd
  have HGD := hid (And.intro hgd htop)
  have hrs1 := RS_lower hrs ((((Below.refl _ w).alloc (Nat.le_refl _) (.cells (st8 t) 30)).alloc (by simp) (.cells #[.int .i64 x] 3)).alloc (by simp; omega) (.cells #[.int .i64 y] 3))
  have HRS1 := hid hrs1
  have HBX := hid (And.intro hS (And.intro hX hY))
  clear hrs hrs1 hS hX hY hd hlen hgd htop hb
  go_wp2_with fail
  refine (HCB.out _).mono ?_
  rintro e' w5 ⟨vg, rfl, hr, hb⟩
  obtain ⟨gb, gc, hv, _, _⟩ := R_form hr HP.out
  subst hv
  obtain ⟨gn, hgn⟩ : ∃ gn, gn = gr.length := ⟨_, rfl⟩
  have hC := (Kd.R_reads' hr).2.2
  have hc := (Kd.R_reads' hr).2.1
  have hrs := RS.below HRS1.out hb
  have hX5 := blk_below HBX.out.2.1 hb
  have hY5 := blk_below HBX.out.2.2 hb
  have hS5 := blk_below HBX.out.1 hb
  have HROLL5 := hid (show ∀ sx, sx ∈ L.map (·.1) → ∀ i, i < 4 → ∀ W, Below w5.heap.size w5 W → Calls Tryd.prog 19 #[.slice (some ⟨gb, 0, none⟩) gn gc, .agg (st8 sx), .int .u8 (byt i)] W fun e w' => e = .returned (.tuple #[.agg (st8 (moved sx i)), .bool (canF fl0 sx i)]) ∧ Below W.heap.size W w' from fun sx hsx i hi W hW => by
   obtain ⟨x, hx, rfl⟩ := List.mem_map.1 hsx
   rw [hgn]
   exact HROLL.out x.1 (HGD.out.1 x hx) i hi _ _ W (Kd.C_below hC hW) hc)
  have HW := hid (prices_walk (test x y) fl0 t HD.out HGD.out.2 HG.out.small (w.heap.size + 1) (w.heap.size + 1 + 1) w w5 Br M gb gn gc v0 v1 v2 v3 hrs HROLL5.out
   (fun sx W hW => test_walk sx x y _ _ W (blk_below hX5 hW) (blk_below hY5 hW)))
  have HRS5 := hid hrs
  have HS5 := hid hS5
  rw [← hgn]
  clear hr hb hrs HRS1 HP HCB hC hc hX5 hY5 hS5 HBX HROLL hgn
  go_wp2_with fail
  refine HW.out.mono ?_
  rintro e' w6 ⟨b7, c7, g, rfl, hR, hI, hF, hB⟩
  obtain ⟨kk, hkk⟩ : ∃ kk, kk = L.length := ⟨_, rfl⟩
  rw [← hkk] at hR HG hI hF
  rw [← hkk]
  have HKK := hid hkk
  have HR := hid hR
  have HIF := hid (And.intro hI hF)
  have HRS := hid (RS.below HRS5.out hB)
  have HB0 := hid (RS.below HRS5.out hB).bel
  have HS := hid (blk_below HS5.out hB)
  have HROLL := hid (fun sx hsx i hi W (hW : Below w6.heap.size w6 W) => HROLL5.out sx hsx i hi W (below_then hB hB.size hW))
  have hn0 : (0 : Int) < (kk : Int) := by have := HG.out.pos; omega
  obtain ⟨⟨p0_, p1_⟩, _, _⟩ := pr_cells HR.out 0 _ (row_at g HG.out.pos)
  rw [Nat.zero_mul] at p0_ p1_
  clear hkk hR hI hF hB HW HRS5 HS5 HROLL5
  by_cases hdr : (g 0).1 < Price.dear
  ·have hnd : ¬ 1099511627776 ≤ (g 0).1 := by unfold Price.dear at hdr; omega
   by_cases h60 : (g 0).2 > 60
   ·have hfin : Ending.returned (.tuple #[.string ⟨#[]⟩, .int .i64 0, .bool false]) = Ending.returned (.tuple #[.string res.1, .int .i64 res.2.1, .bool res.2.2]) := by
     rw [HFIN.out]
     unfold cheap
     rw [Cheap.prog_some HG.out HIF.out.1 HIF.out.2 HG.out.pos hdr]
     simp only
     rw [if_pos h60]
    obtain ⟨g0, hg0⟩ : ∃ g0, g0 = g 0 := ⟨_, rfl⟩
    rw [← hg0] at p0_ p1_ hnd h60
    clear hdr hg0
    go_wp2_with fail
    go_ret3
    exact ⟨hfin, HB0.out⟩
   ·have HFIN2 := hid (show res = (wayT (nxL fl0 L) (topL L) (TL (test x y) L) (g 0).2.toNat 0 (g 0).1, (g 0).1, true) by
     rw [HFIN.out]
     unfold cheap
     rw [Cheap.prog_some HG.out HIF.out.1 HIF.out.2 HG.out.pos hdr]
     simp only
     rw [if_neg h60])
    have HDR := hid hdr
    obtain ⟨⟨c9, r9⟩, hg0⟩ : ∃ g0, g0 = g 0 := ⟨_, rfl⟩
    rw [← hg0] at HFIN2
    have H60 := hid (show r9 ≤ 60 by rw [← hg0] at h60; simpa using h60)
    simp only [← hg0] at p0_ p1_ hnd h60
    have HG0 := hid hg0
    have HB := hid (Below.refl w6.heap.size w6)
    clear hdr hg0 HFIN
    go_upto_region 8 with fail
    clear p0_ p1_ hnd h60
    refine start_ (n := 4) (S := fun w' => True) (ds := []) #[ff, ff, ff, ff] (by kernel_rfl) rfl rfl trivial (fun hHeld => ?_)
    refine with_tabW chi.tab8 chi.bits8 (fun HT_ HW_ => ?_)
    have n_HB := hid (below_drew HB.out)
    clear HB
    have HB := n_HB
    clear n_HB
    generalize World.drew _ = w8 at HB hHeld ⊢
    refine inv_at [0, 1, 2, 3] (fun a0_ b a w' => ∃ (go_ : Nat) (m1_ : Value), a = putSel a0_ b [(0, 53, .agg #[.int .i64 t.x, .int .i64 t.y, .int .i64 t.d.t, .int .i64 t.d.n, .int .i64 t.d.e, .int .i64 t.d.s, .int .i64 t.d.w, .int .i64 t.d.b]), (1, 17, m1_), (2, 16, .string ⟨#[]⟩)] ∧ (Below w6.heap.size w6 w') ∧ (b 1 = true → b 3 = false → w'.heap[go_]? = some (.cells #[.int .i64 0, .int .i64 0, .int .i64 0, .int .i64 0, .int .i64 0, .int .i64 0, .int .i64 0, .int .i64 0] 30 (0, 0)) ∧ w6.heap.size ≤ go_) ∧ (b 3 = true → w'.heap[go_]? = some (.cells (st8 t) 30 (0, 0)) ∧ w6.heap.size ≤ go_) ∧ (b 1 = true → (m1_ : Value) = .pointer (some ⟨go_, 0, none⟩))) HT_.out HW_.out (by kernel_rfl) (by kernel_rfl) ?_ ?_ ?_
    ·exact ⟨0, .bool false, by simp only [putSel, Bool.false_eq_true, if_false], HB.out, fun h_ => absurd h_ (by decide), fun h_ => absurd h_ (by decide), fun h_ => absurd h_ (by decide)⟩
    ·skip
     clear HB
     refine steps_cons ?_ ?_
     ·rintro b a w' ⟨go_, m1_, ha, Q_HB, Q_Z0, Q_BG, Q_X1_⟩ hb_ hon hoff
      refine ⟨_, rfl, fun K hK => ?_⟩
      have e5 : a.tmps[5]? = some (.pointer (some ⟨w.heap.size, 0, none⟩)) := by rw [ha]; exact (putSel_off rfl).trans rfl
      replace ha := am ha
      have HB := am Q_HB
      have o0 : w'.cell? ⟨w.heap.size, 0, none⟩ = some (.int .i64 t.x) := blk_cell (blk_below HS.out HB.out) 0
      have o1 : w'.cell? ⟨w.heap.size, 1, none⟩ = some (.int .i64 t.y) := blk_cell (blk_below HS.out HB.out) 1
      have o2 : w'.cell? ⟨w.heap.size, 2, none⟩ = some (.int .i64 t.d.t) := blk_cell (blk_below HS.out HB.out) 2
      have o3 : w'.cell? ⟨w.heap.size, 3, none⟩ = some (.int .i64 t.d.n) := blk_cell (blk_below HS.out HB.out) 3
      have o4 : w'.cell? ⟨w.heap.size, 4, none⟩ = some (.int .i64 t.d.e) := blk_cell (blk_below HS.out HB.out) 4
      have o5 : w'.cell? ⟨w.heap.size, 5, none⟩ = some (.int .i64 t.d.s) := blk_cell (blk_below HS.out HB.out) 5
      have o6 : w'.cell? ⟨w.heap.size, 6, none⟩ = some (.int .i64 t.d.w) := blk_cell (blk_below HS.out HB.out) 6
      have o7 : w'.cell? ⟨w.heap.size, 7, none⟩ = some (.int .i64 t.d.b) := blk_cell (blk_below HS.out HB.out) 7
      refine value_ (w1 := w') (v := .agg #[.int .i64 t.x, .int .i64 t.y, .int .i64 t.d.t, .int .i64 t.d.n, .int .i64 t.d.e, .int .i64 t.d.s, .int .i64 t.d.w, .int .i64 t.d.b]) (by rfl) rfl ?_ ?_
      ·go_simp
       (try simp only [i64_w])
       try rfl
      refine hK.out _ _ ⟨go_, m1_, (by rw [ha.out]; exact putSel_upk 0 hb_ rfl rfl rfl), Q_HB, Q_Z0, fun h0_ => absurd ((hoff 3 (by kernel_rfl)).symm.trans h0_) (by decide), Q_X1_⟩
     refine steps_cons ?_ ?_
     ·rintro b a w' ⟨go_, m1_, ha, Q_HB, Q_Z0, Q_BG, Q_X1_⟩ hb_ hon hoff
      refine ⟨_, rfl, fun K hK => ?_⟩
      replace ha := am ha
      have HB := am Q_HB
      refine value_ (w1 := ?_) (v := ?_) (by rfl) rfl ?_ ?_
      rotate_left 2
      ·go_simp
       constructor
       ·rfl
       ·rfl
      refine hK.out _ _ ⟨w'.heap.size, (.pointer (some ⟨w'.heap.size, 0, none⟩)), (by rw [ha.out]; exact putSel_upk 1 hb_ rfl rfl rfl), below_alloc HB.out _, fun _ _ => ⟨blk_new _ _, HB.out.size⟩, fun h0_ => absurd ((hoff 3 (by kernel_rfl)).symm.trans h0_) (by decide), fun _ => rfl⟩
     refine steps_cons ?_ ?_
     ·rintro b a w' ⟨go_, m1_, ha, Q_HB, Q_Z0, Q_BG, Q_X1_⟩ hb_ hon hoff
      refine ⟨_, rfl, fun K hK => ?_⟩
      replace ha := am ha
      have HB := am Q_HB
      have Z0 := am (Q_Z0 (hon 1 (by kernel_rfl)) (hoff 3 (by kernel_rfl)))
      refine value_ (w1 := w') (v := .string ⟨#[]⟩) (by rfl) rfl ?_ ?_
      ·go_simp
       (try simp only [i64_w])
       try rfl
      refine hK.out _ _ ⟨go_, m1_, (by rw [ha.out]; exact putSel_upk 2 hb_ rfl rfl rfl), Q_HB, Q_Z0, fun h0_ => absurd ((hoff 3 (by kernel_rfl)).symm.trans h0_) (by decide), Q_X1_⟩
     refine steps_cons ?_ ?_
     ·rintro b a w' ⟨go_, m1_, ha, Q_HB, Q_Z0, Q_BG, Q_X1_⟩ hb_ hon hoff
      refine ⟨_, rfl, fun K hK => ?_⟩
      have e17 : a.tmps[17]? = some (m1_) := by rw [ha]; exact putSel_on (e := (1, 17, m1_)) 1 rfl rfl (hon 1 (by kernel_rfl)) rfl
      rw [Q_X1_ (hon 1 (by kernel_rfl))] at e17
      have e53 : a.tmps[53]? = some (.agg #[.int .i64 t.x, .int .i64 t.y, .int .i64 t.d.t, .int .i64 t.d.n, .int .i64 t.d.e, .int .i64 t.d.s, .int .i64 t.d.w, .int .i64 t.d.b]) := by rw [ha]; exact putSel_on (e := (0, 53, .agg #[.int .i64 t.x, .int .i64 t.y, .int .i64 t.d.t, .int .i64 t.d.n, .int .i64 t.d.e, .int .i64 t.d.s, .int .i64 t.d.w, .int .i64 t.d.b])) 0 rfl rfl (hon 0 (by kernel_rfl)) rfl
      replace ha := am ha
      have HB := am Q_HB
      have Z0 := am (Q_Z0 (hon 1 (by kernel_rfl)) hb_)
      have z0 : w'.cell? ⟨go_, 0, none⟩ = some (.int .i64 0) := blk_cell Z0.out.1 0
      have z1 : w'.cell? ⟨go_, 1, none⟩ = some (.int .i64 0) := blk_cell Z0.out.1 1
      have z2 : w'.cell? ⟨go_, 2, none⟩ = some (.int .i64 0) := blk_cell Z0.out.1 2
      have z3 : w'.cell? ⟨go_, 3, none⟩ = some (.int .i64 0) := blk_cell Z0.out.1 3
      have z4 : w'.cell? ⟨go_, 4, none⟩ = some (.int .i64 0) := blk_cell Z0.out.1 4
      have z5 : w'.cell? ⟨go_, 5, none⟩ = some (.int .i64 0) := blk_cell Z0.out.1 5
      have z6 : w'.cell? ⟨go_, 6, none⟩ = some (.int .i64 0) := blk_cell Z0.out.1 6
      have z7 : w'.cell? ⟨go_, 7, none⟩ = some (.int .i64 0) := blk_cell Z0.out.1 7
      have zf0 := blk_frozen Z0.out.1 0
      have zf1 := blk_frozen Z0.out.1 1
      have zf2 := blk_frozen Z0.out.1 2
      have zf3 := blk_frozen Z0.out.1 3
      have zf4 := blk_frozen Z0.out.1 4
      have zf5 := blk_frozen Z0.out.1 5
      have zf6 := blk_frozen Z0.out.1 6
      have zf7 := blk_frozen Z0.out.1 7
      have hz2_ := Z0.out.2
      refine skip_ (w1 := ?_) (by rfl) rfl ?_ ?_
      rotate_left
      ·go_simp
       rfl
      refine hK.out _ _ ⟨go_, m1_, (by rw [ha.out]; exact putSel_none (v := undef) rfl), (below_set (below_set (below_set (below_set (below_set (below_set (below_set (below_set HB.out hz2_) hz2_) hz2_) hz2_) hz2_) hz2_) hz2_) hz2_), fun _ h1_ => absurd ((up_self b 3).symm.trans h1_) (by decide), fun _ => ⟨(blk_put (cs := #[.int .i64 t.x, .int .i64 t.y, .int .i64 t.d.t, .int .i64 t.d.n, .int .i64 t.d.e, .int .i64 t.d.s, .int .i64 t.d.w, .int .i64 0]) (blk_put (cs := #[.int .i64 t.x, .int .i64 t.y, .int .i64 t.d.t, .int .i64 t.d.n, .int .i64 t.d.e, .int .i64 t.d.s, .int .i64 0, .int .i64 0]) (blk_put (cs := #[.int .i64 t.x, .int .i64 t.y, .int .i64 t.d.t, .int .i64 t.d.n, .int .i64 t.d.e, .int .i64 0, .int .i64 0, .int .i64 0]) (blk_put (cs := #[.int .i64 t.x, .int .i64 t.y, .int .i64 t.d.t, .int .i64 t.d.n, .int .i64 0, .int .i64 0, .int .i64 0, .int .i64 0]) (blk_put (cs := #[.int .i64 t.x, .int .i64 t.y, .int .i64 t.d.t, .int .i64 0, .int .i64 0, .int .i64 0, .int .i64 0, .int .i64 0]) (blk_put (cs := #[.int .i64 t.x, .int .i64 t.y, .int .i64 0, .int .i64 0, .int .i64 0, .int .i64 0, .int .i64 0, .int .i64 0]) (blk_put (cs := #[.int .i64 t.x, .int .i64 0, .int .i64 0, .int .i64 0, .int .i64 0, .int .i64 0, .int .i64 0, .int .i64 0]) (blk_put (cs := #[.int .i64 0, .int .i64 0, .int .i64 0, .int .i64 0, .int .i64 0, .int .i64 0, .int .i64 0, .int .i64 0]) Z0.out.1 0 _ rfl) 1 _ rfl) 2 _ rfl) 3 _ rfl) 4 _ rfl) 5 _ rfl) 6 _ rfl) 7 _ rfl), hz2_⟩, Q_X1_⟩
     exact steps_nil
    ·rintro b a w' hall ⟨go_, m1_, ha, Q_HB, Q_Z0, Q_BG, Q_X1_⟩
     clear HB
     have hb0_ := hall 0 (by kernel_rfl)
     have hb1_ := hall 1 (by kernel_rfl)
     have hb2_ := hall 2 (by kernel_rfl)
     have hb3_ := hall 3 (by kernel_rfl)
     subst ha
     obtain rfl := Q_X1_ hb1_
     simp only [putSel, hb0_, hb1_, hb2_, hb3_, if_true, Act.put, List.setIfInBounds_toArray, List.set_cons_zero, List.set_cons_succ]
     have HB := am Q_HB
     clear Q_HB
     clear Q_Z0
     have BG := am (Q_BG hb3_)
     clear Q_BG
     clear hall hb0_ hb1_ hb2_ hb3_
     go_wp2_with fail
     go_loopg [16] (r9.toNat + 1) (fun gk v16 wr => ∃ (acc : ByteArray) (u : St) (wd : List Nat) (aa : Nat), v16 = .string acc ∧ L[aa]? = some (u, wd) ∧ (g aa).1 < Price.dear ∧ gk = (g aa).2.toNat + 1 ∧ acc ++ wayT (nxL fl0 L) (topL L) (TL (test x y) L) (g aa).2.toNat aa (g aa).1 = res.1 ∧ acc.size + (g aa).2.toNat = r9.toNat ∧ wr.heap[go_]? = some (.cells (st8 u) 30 (0, 0)) ∧ Below w6.heap.size w6 wr)
     case atStart => exact ⟨⟨#[]⟩, t, [], 0, rfl, HD.out.root, HDR.out, by rw [← HG0.out], by rw [← HG0.out, HFIN2.out]; exact ByteArray.empty_append, by rw [← HG0.out]; show 0 + r9.toNat = _; omega, BG.out.1, HB.out⟩
     case round =>
      have HGO := hid BG.out.2
      clear HB BG
      obtain ⟨acc, u, wd, aa, rfl, hx, hdr, hgk, hacc, hsz, hbg, hB⟩ := hrel
      have HB := hid hB
      have BG := hid (And.intro hbg HGO.out)
      have HX := hid hx
      have haa : aa < kk := by rw [HKK.out]; exact (List.getElem?_eq_some_iff.1 hx).1
      have HA := hid haa
      obtain ⟨⟨cn_, rn_⟩, hgn⟩ : ∃ p, p = g aa := ⟨_, rfl⟩
      have HGN := hid hgn
      rw [← hgn] at hdr hgk hacc hsz
      have HDN := hid hdr
      have HGK := hid hgk
      have HACC := hid hacc
      have HSZ := hid hsz
      have HPL := hid (show ((Maps.place u 0 (L.map (·.1))).map valN).getD (.int .i64 0) = .int .i64 (aa : Int) by rw [place_of HD.out.apart hx]; rfl)
      have hlk_ : ∀ m, (Instr.lookup 63 (.map (some M)) (.agg (st8 u)) false).run Tryd.prog (wr.drewN m) = .ok (.int .i64 (aa : Int)) (wr.drewN m) := fun m => by
       have h_ := look_run (val := valN) fits Tryd.underlying63 (Reached.zeroI (wr.drewN m)) (RS.below HRS.out (pw_below_drewN HB.out m)).map u false
       rw [HPL.out] at h_
       exact h_
      have hf_ : wr.cell? ⟨Br, 4, none⟩ = some (.map (some M)) := blk_cell (RS.below HRS.out HB.out).blk 4
      have o0_ : wr.cell? ⟨go_, 0, none⟩ = some (.int .i64 u.x) := blk_cell BG.out.1 0
      have o1_ : wr.cell? ⟨go_, 1, none⟩ = some (.int .i64 u.y) := blk_cell BG.out.1 1
      have o2_ : wr.cell? ⟨go_, 2, none⟩ = some (.int .i64 u.d.t) := blk_cell BG.out.1 2
      have o3_ : wr.cell? ⟨go_, 3, none⟩ = some (.int .i64 u.d.n) := blk_cell BG.out.1 3
      have o4_ : wr.cell? ⟨go_, 4, none⟩ = some (.int .i64 u.d.e) := blk_cell BG.out.1 4
      have o5_ : wr.cell? ⟨go_, 5, none⟩ = some (.int .i64 u.d.s) := blk_cell BG.out.1 5
      have o6_ : wr.cell? ⟨go_, 6, none⟩ = some (.int .i64 u.d.w) := blk_cell BG.out.1 6
      have o7_ : wr.cell? ⟨go_, 7, none⟩ = some (.int .i64 u.d.b) := blk_cell BG.out.1 7
      obtain ⟨⟨l0_, l1_⟩, _, _⟩ := pr_cells (Kd.R_below HR.out HB.out) aa (cn_, rn_) (by rw [hgn]; exact row_at g haa)
      simp only at l0_ l1_
      have ha0_ : (0 : Int) ≤ (aa : Int) := by omega
      have ha1_ : (aa : Int) < (kk : Int) := by omega
      by_cases hr0 : rn_ > 0
      ·have hrd : decide (rn_ > 0) = true := decide_eq_true hr0
       have HR0 := hid hr0
       clear hx haa hgn hdr hgk hacc hsz hbg hB hr0
       go_wp2_with fail
       go_quiet (fail)
       have n_HB := hid (pw_below_drewN HB.out nq)
       have n_BG := hid (And.intro (blk_drewN BG.out.1 nq) BG.out.2)
       clear HB BG hlk_ hf_ l0_ l1_ hrd o0_ o1_ o2_ o3_ o4_ o5_ o6_ o7_
       have HB := n_HB
       have BG := n_BG
       clear n_HB n_BG
       generalize World.drewN _ _ = w9 at HB BG ⊢
       go_upto_region 10 with fail
       refine start_ (n := 11) (S := fun w' => True) (ds := []) #[ff, ff, ff, ff, ff, ff, ff, ff, ff, ff, ff] (by kernel_rfl) rfl rfl trivial (fun hHeld => ?_)
       refine with_tabW chi.tab10 chi.bits10 (fun HT_ HW_ => ?_)
       have n_HB := hid (below_drew HB.out)
       have n_BG := hid (And.intro (blk_drew BG.out.1) BG.out.2)
       clear HB BG
       have HB := n_HB
       have BG := n_BG
       clear n_HB n_BG
       generalize World.drew _ = w10 at HB BG hHeld ⊢
       refine pure_ (i := 0) (N := some 65) (v := ?_) (a' := ?_) #[tt, ff, ff, ff, ff, ff, ff, ff, ff, ff, ff] rfl rfl (any_of HT_.out (by kernel_rfl)) (fun _ _ _ h => h) (Or.inl ⟨by rfl, ?_⟩) ?_ ?_
       rotate_left
       ·intro w'
        go_simp
        with_reducible rfl
       rotate_left
       ·simp only [Act.put, List.setIfInBounds_toArray, List.set_cons_zero, List.set_cons_succ, i64_w, i32_w]
        rfl
       refine pure_ (i := 1) (N := some 66) (v := ?_) (a' := ?_) #[tt, tt, ff, ff, ff, ff, ff, ff, ff, ff, ff] rfl rfl (any_of HT_.out (by kernel_rfl)) (fun _ _ _ h => h) (Or.inl ⟨by rfl, ?_⟩) ?_ ?_
       rotate_left
       ·intro w'
        go_simp
        with_reducible rfl
       rotate_left
       ·simp only [Act.put, List.setIfInBounds_toArray, List.set_cons_zero, List.set_cons_succ, i64_w, i32_w]
        rfl
       refine inv_at [2, 3, 4, 5, 6, 7, 8, 9, 10] (fun a0_ b a w' => ∃ (gl_ : Nat) (m9_ : Value), a = putSel a0_ b [(2, 67, .pointer (some ⟨Br, 0, none⟩)), (3, 68, .pointer (some ⟨Br, 4, none⟩)), (4, 69, .map (some M)), (5, 70, .agg #[.int .i64 u.x, .int .i64 u.y, .int .i64 u.d.t, .int .i64 u.d.n, .int .i64 u.d.e, .int .i64 u.d.s, .int .i64 u.d.w, .int .i64 u.d.b]), (6, 71, .int .i64 (aa : Int)), (7, 72, .pointer (some ⟨b7, aa * 2, none⟩)), (8, 73, .agg #[.int .i64 cn_, .int .i64 rn_]), (9, 18, m9_)] ∧ (Below w6.heap.size w6 w') ∧ (w'.heap[go_]? = some (.cells (st8 u) 30 (0, 0)) ∧ w6.heap.size ≤ go_) ∧ (b 9 = true → b 10 = false → w'.heap[gl_]? = some (.cells #[.int .i64 0, .int .i64 0] 60 (0, 0)) ∧ w6.heap.size ≤ gl_ ∧ go_ ≠ gl_) ∧ (b 10 = true → w'.heap[gl_]? = some (.cells #[.int .i64 cn_, .int .i64 rn_] 60 (0, 0)) ∧ w6.heap.size ≤ gl_ ∧ go_ ≠ gl_) ∧ (b 9 = true → (m9_ : Value) = .pointer (some ⟨gl_, 0, none⟩))) HT_.out HW_.out (by kernel_rfl) (by kernel_rfl) ?_ ?_ ?_
       ·exact ⟨0, .bool false, by simp only [putSel, Bool.false_eq_true, if_false], HB.out, BG.out, fun h_ => absurd h_ (by decide), fun h_ => absurd h_ (by decide), fun h_ => absurd h_ (by decide)⟩
       ·skip
        clear BG HB
        refine steps_cons ?_ ?_
        ·rintro b a w' ⟨gl_, m9_, ha, Q_HB, Q_BG, Q_Z0, Q_BN, Q_X9_⟩ hb_ hon hoff
         refine ⟨_, rfl, fun K hK => ?_⟩
         have e66 : a.tmps[66]? = some (.pointer (some ⟨Br, 0, none⟩)) := by rw [ha]; exact (putSel_off rfl).trans rfl
         replace ha := am ha
         have HB := am Q_HB
         have BG := am Q_BG
         refine value_ (w1 := w') (v := .pointer (some ⟨Br, 0, none⟩)) (by rfl) rfl ?_ ?_
         ·go_simp
          (try simp only [i64_w])
          try rfl
         refine hK.out _ _ ⟨gl_, m9_, (by rw [ha.out]; exact putSel_upk 0 hb_ rfl rfl rfl), Q_HB, Q_BG, Q_Z0, fun h0_ => absurd ((hoff 10 (by kernel_rfl)).symm.trans h0_) (by decide), Q_X9_⟩
        refine steps_cons ?_ ?_
        ·rintro b a w' ⟨gl_, m9_, ha, Q_HB, Q_BG, Q_Z0, Q_BN, Q_X9_⟩ hb_ hon hoff
         refine ⟨_, rfl, fun K hK => ?_⟩
         have e67 : a.tmps[67]? = some (.pointer (some ⟨Br, 0, none⟩)) := by rw [ha]; exact putSel_on (e := (2, 67, .pointer (some ⟨Br, 0, none⟩))) 0 rfl rfl (hon 2 (by kernel_rfl)) rfl
         replace ha := am ha
         have HB := am Q_HB
         have BG := am Q_BG
         refine value_ (w1 := w') (v := .pointer (some ⟨Br, 4, none⟩)) (by rfl) rfl ?_ ?_
         ·go_simp
          (try simp only [i64_w])
          try rfl
         refine hK.out _ _ ⟨gl_, m9_, (by rw [ha.out]; exact putSel_upk 1 hb_ rfl rfl rfl), Q_HB, Q_BG, Q_Z0, fun h0_ => absurd ((hoff 10 (by kernel_rfl)).symm.trans h0_) (by decide), Q_X9_⟩
        refine steps_cons ?_ ?_
        ·rintro b a w' ⟨gl_, m9_, ha, Q_HB, Q_BG, Q_Z0, Q_BN, Q_X9_⟩ hb_ hon hoff
         refine ⟨_, rfl, fun K hK => ?_⟩
         have e68 : a.tmps[68]? = some (.pointer (some ⟨Br, 4, none⟩)) := by rw [ha]; exact putSel_on (e := (3, 68, .pointer (some ⟨Br, 4, none⟩))) 1 rfl rfl (hon 3 (by kernel_rfl)) rfl
         replace ha := am ha
         have HB := am Q_HB
         have BG := am Q_BG
         have hv_ : w'.cell? ⟨Br, 4, none⟩ = some (.map (some M)) := blk_cell (RS.below HRS.out HB.out).blk 4
         refine value_ (w1 := w') (v := .map (some M)) (by rfl) rfl ?_ ?_
         ·go_simp
          (try simp only [i64_w])
          try rfl
         refine hK.out _ _ ⟨gl_, m9_, (by rw [ha.out]; exact putSel_upk 2 hb_ rfl rfl rfl), Q_HB, Q_BG, Q_Z0, fun h0_ => absurd ((hoff 10 (by kernel_rfl)).symm.trans h0_) (by decide), Q_X9_⟩
        refine steps_cons ?_ ?_
        ·rintro b a w' ⟨gl_, m9_, ha, Q_HB, Q_BG, Q_Z0, Q_BN, Q_X9_⟩ hb_ hon hoff
         refine ⟨_, rfl, fun K hK => ?_⟩
         have e17 : a.tmps[17]? = some (.pointer (some ⟨go_, 0, none⟩)) := by rw [ha]; exact (putSel_off rfl).trans rfl
         replace ha := am ha
         have HB := am Q_HB
         have BG := am Q_BG
         have o0 : w'.cell? ⟨go_, 0, none⟩ = some (.int .i64 u.x) := blk_cell BG.out.1 0
         have o1 : w'.cell? ⟨go_, 1, none⟩ = some (.int .i64 u.y) := blk_cell BG.out.1 1
         have o2 : w'.cell? ⟨go_, 2, none⟩ = some (.int .i64 u.d.t) := blk_cell BG.out.1 2
         have o3 : w'.cell? ⟨go_, 3, none⟩ = some (.int .i64 u.d.n) := blk_cell BG.out.1 3
         have o4 : w'.cell? ⟨go_, 4, none⟩ = some (.int .i64 u.d.e) := blk_cell BG.out.1 4
         have o5 : w'.cell? ⟨go_, 5, none⟩ = some (.int .i64 u.d.s) := blk_cell BG.out.1 5
         have o6 : w'.cell? ⟨go_, 6, none⟩ = some (.int .i64 u.d.w) := blk_cell BG.out.1 6
         have o7 : w'.cell? ⟨go_, 7, none⟩ = some (.int .i64 u.d.b) := blk_cell BG.out.1 7
         refine value_ (w1 := w') (v := .agg #[.int .i64 u.x, .int .i64 u.y, .int .i64 u.d.t, .int .i64 u.d.n, .int .i64 u.d.e, .int .i64 u.d.s, .int .i64 u.d.w, .int .i64 u.d.b]) (by rfl) rfl ?_ ?_
         ·go_simp
          (try simp only [i64_w])
          try rfl
         refine hK.out _ _ ⟨gl_, m9_, (by rw [ha.out]; exact putSel_upk 3 hb_ rfl rfl rfl), Q_HB, Q_BG, Q_Z0, fun h0_ => absurd ((hoff 10 (by kernel_rfl)).symm.trans h0_) (by decide), Q_X9_⟩
        refine steps_cons ?_ ?_
        ·rintro b a w' ⟨gl_, m9_, ha, Q_HB, Q_BG, Q_Z0, Q_BN, Q_X9_⟩ hb_ hon hoff
         refine ⟨_, rfl, fun K hK => ?_⟩
         have e69 : a.tmps[69]? = some (.map (some M)) := by rw [ha]; exact putSel_on (e := (4, 69, .map (some M))) 2 rfl rfl (hon 4 (by kernel_rfl)) rfl
         have e70 : a.tmps[70]? = some (.agg #[.int .i64 u.x, .int .i64 u.y, .int .i64 u.d.t, .int .i64 u.d.n, .int .i64 u.d.e, .int .i64 u.d.s, .int .i64 u.d.w, .int .i64 u.d.b]) := by rw [ha]; exact putSel_on (e := (5, 70, .agg #[.int .i64 u.x, .int .i64 u.y, .int .i64 u.d.t, .int .i64 u.d.n, .int .i64 u.d.e, .int .i64 u.d.s, .int .i64 u.d.w, .int .i64 u.d.b])) 3 rfl rfl (hon 5 (by kernel_rfl)) rfl
         replace ha := am ha
         have HB := am Q_HB
         have BG := am Q_BG
         have hlk_ := look_run (val := valN) fits Tryd.underlying63 (Reached.zeroI w') (RS.below HRS.out HB.out).map u false
         rw [show encSt u = _ from rfl, if_neg (by decide), HPL.out] at hlk_
         refine value_ (w1 := w') (v := .int .i64 (aa : Int)) (by rfl) rfl ?_ ?_
         ·go_simp
          (try simp only [i64_w])
          try rfl
         refine hK.out _ _ ⟨gl_, m9_, (by rw [ha.out]; exact putSel_upk 4 hb_ rfl rfl rfl), Q_HB, Q_BG, Q_Z0, fun h0_ => absurd ((hoff 10 (by kernel_rfl)).symm.trans h0_) (by decide), Q_X9_⟩
        refine steps_cons ?_ ?_
        ·rintro b a w' ⟨gl_, m9_, ha, Q_HB, Q_BG, Q_Z0, Q_BN, Q_X9_⟩ hb_ hon hoff
         refine ⟨_, rfl, fun K hK => ?_⟩
         have e65 : a.tmps[65]? = some (.slice (some ⟨b7, 0, none⟩) kk c7) := by rw [ha]; exact (putSel_off rfl).trans rfl
         have e71 : a.tmps[71]? = some (.int .i64 (aa : Int)) := by rw [ha]; exact putSel_on (e := (6, 71, .int .i64 (aa : Int))) 4 rfl rfl (hon 6 (by kernel_rfl)) rfl
         replace ha := am ha
         have HB := am Q_HB
         have BG := am Q_BG
         have ha2_ : (aa : Int) < (kk : Int) := by have h_ := HA.out; omega
         have ha3_ : (0 : Int) ≤ (aa : Int) := by omega
         refine value_ (w1 := w') (v := .pointer (some ⟨b7, aa * 2, none⟩)) (by rfl) rfl ?_ ?_
         ·go_simp
          (try simp only [i64_w])
          try rfl
         refine hK.out _ _ ⟨gl_, m9_, (by rw [ha.out]; exact putSel_upk 5 hb_ rfl rfl rfl), Q_HB, Q_BG, Q_Z0, fun h0_ => absurd ((hoff 10 (by kernel_rfl)).symm.trans h0_) (by decide), Q_X9_⟩
        refine steps_cons ?_ ?_
        ·rintro b a w' ⟨gl_, m9_, ha, Q_HB, Q_BG, Q_Z0, Q_BN, Q_X9_⟩ hb_ hon hoff
         refine ⟨_, rfl, fun K hK => ?_⟩
         have e72 : a.tmps[72]? = some (.pointer (some ⟨b7, aa * 2, none⟩)) := by rw [ha]; exact putSel_on (e := (7, 72, .pointer (some ⟨b7, aa * 2, none⟩))) 5 rfl rfl (hon 7 (by kernel_rfl)) rfl
         replace ha := am ha
         have HB := am Q_HB
         have BG := am Q_BG
         obtain ⟨⟨l0_, l1_⟩, _, _⟩ := pr_cells (Kd.R_below HR.out HB.out) aa (cn_, rn_) (by rw [HGN.out]; exact row_at g HA.out)
         simp only at l0_ l1_
         refine value_ (w1 := w') (v := .agg #[.int .i64 cn_, .int .i64 rn_]) (by rfl) rfl ?_ ?_
         ·go_simp
          (try simp only [i64_w])
          try rfl
         refine hK.out _ _ ⟨gl_, m9_, (by rw [ha.out]; exact putSel_upk 6 hb_ rfl rfl rfl), Q_HB, Q_BG, Q_Z0, fun h0_ => absurd ((hoff 10 (by kernel_rfl)).symm.trans h0_) (by decide), Q_X9_⟩
        refine steps_cons ?_ ?_
        ·rintro b a w' ⟨gl_, m9_, ha, Q_HB, Q_BG, Q_Z0, Q_BN, Q_X9_⟩ hb_ hon hoff
         refine ⟨_, rfl, fun K hK => ?_⟩
         replace ha := am ha
         have HB := am Q_HB
         have BG := am Q_BG
         refine value_ (w1 := ?_) (v := ?_) (by rfl) rfl ?_ ?_
         rotate_left 2
         ·go_simp
          constructor
          ·rfl
          ·rfl
         refine hK.out _ _ ⟨w'.heap.size, (.pointer (some ⟨w'.heap.size, 0, none⟩)), (by rw [ha.out]; exact putSel_upk 7 hb_ rfl rfl rfl), below_alloc HB.out _, ⟨blk_alloc BG.out.1 _, BG.out.2⟩, fun _ _ => ⟨blk_new _ _, HB.out.size, Nat.ne_of_lt (blk_lt BG.out.1)⟩, fun h0_ => absurd ((hoff 10 (by kernel_rfl)).symm.trans h0_) (by decide), fun _ => rfl⟩
        refine steps_cons ?_ ?_
        ·rintro b a w' ⟨gl_, m9_, ha, Q_HB, Q_BG, Q_Z0, Q_BN, Q_X9_⟩ hb_ hon hoff
         refine ⟨_, rfl, fun K hK => ?_⟩
         have e18 : a.tmps[18]? = some (m9_) := by rw [ha]; exact putSel_on (e := (9, 18, m9_)) 7 rfl rfl (hon 9 (by kernel_rfl)) rfl
         rw [Q_X9_ (hon 9 (by kernel_rfl))] at e18
         have e73 : a.tmps[73]? = some (.agg #[.int .i64 cn_, .int .i64 rn_]) := by rw [ha]; exact putSel_on (e := (8, 73, .agg #[.int .i64 cn_, .int .i64 rn_])) 6 rfl rfl (hon 8 (by kernel_rfl)) rfl
         replace ha := am ha
         have HB := am Q_HB
         have BG := am Q_BG
         have Z0 := am (Q_Z0 (hon 9 (by kernel_rfl)) hb_)
         have z0 : w'.cell? ⟨gl_, 0, none⟩ = some (.int .i64 0) := blk_cell Z0.out.1 0
         have z1 : w'.cell? ⟨gl_, 1, none⟩ = some (.int .i64 0) := blk_cell Z0.out.1 1
         have zf0 := blk_frozen Z0.out.1 0
         have zf1 := blk_frozen Z0.out.1 1
         have hz2_ := Z0.out.2
         refine skip_ (w1 := ?_) (by rfl) rfl ?_ ?_
         rotate_left
         ·go_simp
          rfl
         refine hK.out _ _ ⟨gl_, m9_, (by rw [ha.out]; exact putSel_none (v := undef) rfl), (below_set (below_set HB.out hz2_.1) hz2_.1), ⟨(blk_far (blk_far BG.out.1 hz2_.2 _) hz2_.2 _), BG.out.2⟩, fun _ h1_ => absurd ((up_self b 10).symm.trans h1_) (by decide), fun _ => ⟨(blk_put (cs := #[.int .i64 cn_, .int .i64 0]) (blk_put (cs := #[.int .i64 0, .int .i64 0]) Z0.out.1 0 _ rfl) 1 _ rfl), hz2_⟩, Q_X9_⟩
        exact steps_nil
       ·rintro b a w' hall ⟨gl_, m9_, ha, Q_HB, Q_BG, Q_Z0, Q_BN, Q_X9_⟩
        clear BG HB
        have hb2_ := hall 2 (by kernel_rfl)
        have hb3_ := hall 3 (by kernel_rfl)
        have hb4_ := hall 4 (by kernel_rfl)
        have hb5_ := hall 5 (by kernel_rfl)
        have hb6_ := hall 6 (by kernel_rfl)
        have hb7_ := hall 7 (by kernel_rfl)
        have hb8_ := hall 8 (by kernel_rfl)
        have hb9_ := hall 9 (by kernel_rfl)
        have hb10_ := hall 10 (by kernel_rfl)
        subst ha
        obtain rfl := Q_X9_ hb9_
        simp only [putSel, hb2_, hb3_, hb4_, hb5_, hb6_, hb7_, hb8_, hb9_, hb10_, if_true, Act.put, List.setIfInBounds_toArray, List.set_cons_zero, List.set_cons_succ]
        have HB := am Q_HB
        clear Q_HB
        have BG := am Q_BG
        clear Q_BG
        clear Q_Z0
        have BN := am (Q_BN hb10_)
        clear Q_BN
        clear hall hb2_ hb3_ hb4_ hb5_ hb6_ hb7_ hb8_ hb9_ hb10_
        go_wp2_with fail
        clear ha0_ ha1_
        have HPK := hid (show ∃ f : Nat, rn_ = (f : Int) + 1 ∧ pickF (nxL fl0 L) (topL L) (TL (test x y) L) aa cn_ f 4 0 = pickF (nxL fl0 L) (topL L) (TL (test x y) L) aa cn_ f (4 - 0) 0 from ⟨(rn_ - 1).toNat, by have := HR0.out; omega, rfl⟩)
        obtain ⟨f, hf, _⟩ := HPK.out
        have HF := hid hf
        clear HPK hf
        go_loopw [16, 74] (fun v16 v74 wi => ∃ ii : Nat, v16 = .string acc ∧ v74 = .int .i64 (ii : Int) ∧ ii ≤ 4 ∧ (∀ d b, d < ii → nxL fl0 L aa d = some b → leastT (nxL fl0 L) (topL L) (TL (test x y) L) b ≠ some (cn_ - topL L b, (f : Int))) ∧ pickF (nxL fl0 L) (topL L) (TL (test x y) L) aa cn_ f 4 0 = pickF (nxL fl0 L) (topL L) (TL (test x y) L) aa cn_ f (4 - ii) ii ∧ wi.heap[go_]? = some (.cells (st8 u) 30 (0, 0)) ∧ wi.heap[gl_]? = some (.cells #[.int .i64 cn_, .int .i64 rn_] 60 (0, 0)) ∧ Below w6.heap.size w6 wi) (fun _ v74 _ => 4 - (intOf v74).toNat)
        case atStart => exact ⟨0, rfl, rfl, by omega, fun d b hd => absurd hd (Nat.not_lt_zero _), rfl, BG.out.1, BN.out.1, HB.out⟩
        case round =>
         have HGL := hid BN.out.2
         clear HB BG BN
         obtain ⟨ii, rfl, rfl, hi, hno, hpk, hbg, hbn, hB⟩ := hrel
         have HB := hid hB
         have BG := hid (And.intro hbg HGO.out)
         have BN := hid (And.intro hbn HGL.out)
         have HNO := hid hno
         have HPK := hid hpk
         clear hno hpk hbg hbn hB
         by_cases h4 : ii < 4
         ·obtain ⟨v, hv⟩ : ∃ v, v = moved u ii := ⟨_, rfl⟩
          obtain ⟨cn, hcn⟩ : ∃ cn, cn = canF fl0 u ii := ⟨_, rfl⟩
          have HMV := hid (fun W hW => HROLL.out u (List.mem_map.2 ⟨_, List.mem_of_getElem? HX.out, rfl⟩) ii h4 W hW)
          rw [← hv, ← hcn] at HMV
          have HU := hid (And.intro hv hcn)
          have HI4 := hid h4
          have hii : (ii : Int) < 4 := by omega
          clear hv hcn h4 hi
          go_upto_region 14 with fail
          refine start_ (n := 11) (S := fun w' => True) (ds := []) #[ff, ff, ff, ff, ff, ff, ff, ff, ff, ff, ff] (by kernel_rfl) rfl rfl trivial (fun hHeld => ?_)
          refine with_tabW chi.tab14 chi.bits14 (fun HT_ HW_ => ?_)
          have n_HB := hid (below_drew HB.out)
          have n_BG := hid (And.intro (blk_drew BG.out.1) BG.out.2)
          have n_BN := hid (And.intro (blk_drew BN.out.1) BN.out.2)
          clear HB BG BN
          have HB := n_HB
          have BG := n_BG
          have BN := n_BN
          clear n_HB n_BG n_BN
          generalize World.drew _ = w14 at HB BG BN hHeld ⊢
          refine pure_ (i := 0) (N := some 78) (v := ?_) (a' := ?_) #[tt, ff, ff, ff, ff, ff, ff, ff, ff, ff, ff] rfl rfl (any_of HT_.out (by kernel_rfl)) (fun _ _ _ h => h) (Or.inl ⟨by rfl, ?_⟩) ?_ ?_
          rotate_left
          ·intro w'
           go_simp
           with_reducible rfl
          rotate_left
          ·simp only [Act.put, List.setIfInBounds_toArray, List.set_cons_zero, List.set_cons_succ, i64_w, i32_w]
           rfl
          refine pure_ (i := 2) (N := some 80) (v := ?_) (a' := ?_) #[tt, ff, tt, ff, ff, ff, ff, ff, ff, ff, ff] rfl rfl (any_of HT_.out (by kernel_rfl)) (fun _ _ _ h => h) (Or.inl ⟨by rfl, ?_⟩) ?_ ?_
          rotate_left
          ·intro w'
           go_simp
           with_reducible rfl
          rotate_left
          ·simp only [Act.put, List.setIfInBounds_toArray, List.set_cons_zero, List.set_cons_succ, i64_w, i32_w]
           rfl
          refine inv_at [1, 3, 4, 5, 6, 7, 8, 9, 10] (fun a0_ b a w' => ∃ (gt_ : Nat) (m8_ : Value), a = putSel a0_ b [(1, 79, .agg #[.int .i64 u.x, .int .i64 u.y, .int .i64 u.d.t, .int .i64 u.d.n, .int .i64 u.d.e, .int .i64 u.d.s, .int .i64 u.d.w, .int .i64 u.d.b]), (3, 81, .int .u8 (byt ii)), (4, 82, .tuple #[.agg #[.int .i64 v.x, .int .i64 v.y, .int .i64 v.d.t, .int .i64 v.d.n, .int .i64 v.d.e, .int .i64 v.d.s, .int .i64 v.d.w, .int .i64 v.d.b], .bool cn]), (5, 77, .tuple #[.agg #[.int .i64 v.x, .int .i64 v.y, .int .i64 v.d.t, .int .i64 v.d.n, .int .i64 v.d.e, .int .i64 v.d.s, .int .i64 v.d.w, .int .i64 v.d.b], .bool cn]), (6, 83, .agg #[.int .i64 v.x, .int .i64 v.y, .int .i64 v.d.t, .int .i64 v.d.n, .int .i64 v.d.e, .int .i64 v.d.s, .int .i64 v.d.w, .int .i64 v.d.b]), (7, 84, .bool cn), (8, 20, m8_), (10, 21, .bool cn)] ∧ (Below w6.heap.size w6 w') ∧ (w'.heap[go_]? = some (.cells (st8 u) 30 (0, 0)) ∧ w6.heap.size ≤ go_) ∧ (w'.heap[gl_]? = some (.cells #[.int .i64 cn_, .int .i64 rn_] 60 (0, 0)) ∧ w6.heap.size ≤ gl_ ∧ go_ ≠ gl_) ∧ (b 8 = true → b 9 = false → w'.heap[gt_]? = some (.cells #[.int .i64 0, .int .i64 0, .int .i64 0, .int .i64 0, .int .i64 0, .int .i64 0, .int .i64 0, .int .i64 0] 30 (0, 0)) ∧ w6.heap.size ≤ gt_ ∧ go_ ≠ gt_ ∧ gl_ ≠ gt_) ∧ (b 9 = true → w'.heap[gt_]? = some (.cells (st8 v) 30 (0, 0)) ∧ w6.heap.size ≤ gt_ ∧ go_ ≠ gt_ ∧ gl_ ≠ gt_) ∧ (b 8 = true → (m8_ : Value) = .pointer (some ⟨gt_, 0, none⟩))) HT_.out HW_.out (by kernel_rfl) (by kernel_rfl) ?_ ?_ ?_
          ·exact ⟨0, .bool false, by simp only [putSel, Bool.false_eq_true, if_false], HB.out, BG.out, BN.out, fun h_ => absurd h_ (by decide), fun h_ => absurd h_ (by decide), fun h_ => absurd h_ (by decide)⟩
          ·skip
           clear BG BN HB
           refine steps_cons ?_ ?_
           ·rintro b a w' ⟨gt_, m8_, ha, Q_HB, Q_BG, Q_BN, Q_Z0, Q_BT, Q_X8_⟩ hb_ hon hoff
            refine ⟨_, rfl, fun K hK => ?_⟩
            have e17 : a.tmps[17]? = some (.pointer (some ⟨go_, 0, none⟩)) := by rw [ha]; exact (putSel_off rfl).trans rfl
            replace ha := am ha
            have HB := am Q_HB
            have BG := am Q_BG
            have BN := am Q_BN
            have o0 : w'.cell? ⟨go_, 0, none⟩ = some (.int .i64 u.x) := blk_cell BG.out.1 0
            have o1 : w'.cell? ⟨go_, 1, none⟩ = some (.int .i64 u.y) := blk_cell BG.out.1 1
            have o2 : w'.cell? ⟨go_, 2, none⟩ = some (.int .i64 u.d.t) := blk_cell BG.out.1 2
            have o3 : w'.cell? ⟨go_, 3, none⟩ = some (.int .i64 u.d.n) := blk_cell BG.out.1 3
            have o4 : w'.cell? ⟨go_, 4, none⟩ = some (.int .i64 u.d.e) := blk_cell BG.out.1 4
            have o5 : w'.cell? ⟨go_, 5, none⟩ = some (.int .i64 u.d.s) := blk_cell BG.out.1 5
            have o6 : w'.cell? ⟨go_, 6, none⟩ = some (.int .i64 u.d.w) := blk_cell BG.out.1 6
            have o7 : w'.cell? ⟨go_, 7, none⟩ = some (.int .i64 u.d.b) := blk_cell BG.out.1 7
            refine value_ (w1 := w') (v := .agg #[.int .i64 u.x, .int .i64 u.y, .int .i64 u.d.t, .int .i64 u.d.n, .int .i64 u.d.e, .int .i64 u.d.s, .int .i64 u.d.w, .int .i64 u.d.b]) (by rfl) rfl ?_ ?_
            ·go_simp
             (try simp only [i64_w])
             try rfl
            refine hK.out _ _ ⟨gt_, m8_, (by rw [ha.out]; exact putSel_upk 0 hb_ rfl rfl rfl), Q_HB, Q_BG, Q_BN, Q_Z0, fun h0_ => absurd ((hoff 9 (by kernel_rfl)).symm.trans h0_) (by decide), Q_X8_⟩
           refine steps_cons ?_ ?_
           ·rintro b a w' ⟨gt_, m8_, ha, Q_HB, Q_BG, Q_BN, Q_Z0, Q_BT, Q_X8_⟩ hb_ hon hoff
            refine ⟨_, rfl, fun K hK => ?_⟩
            have e80 : a.tmps[80]? = some (.int .i64 (ii : Int)) := by rw [ha]; exact (putSel_off rfl).trans rfl
            replace ha := am ha
            have HB := am Q_HB
            have BG := am Q_BG
            have BN := am Q_BN
            have hix_ := Reached.index_dir ii HI4.out
            refine value_ (w1 := w') (v := .int .u8 (byt ii)) (by rfl) rfl ?_ ?_
            ·go_simp
             (try simp only [i64_w])
             try rfl
            refine hK.out _ _ ⟨gt_, m8_, (by rw [ha.out]; exact putSel_upk 1 hb_ rfl rfl rfl), Q_HB, Q_BG, Q_BN, Q_Z0, fun h0_ => absurd ((hoff 9 (by kernel_rfl)).symm.trans h0_) (by decide), Q_X8_⟩
           refine steps_cons ?_ ?_
           ·rintro b a w' ⟨gt_, m8_, ha, Q_HB, Q_BG, Q_BN, Q_Z0, Q_BT, Q_X8_⟩ hb_ hon hoff
            refine ⟨_, rfl, fun K hK => ?_⟩
            have e78 : a.tmps[78]? = some (.slice (some ⟨gb, 0, none⟩) gn gc) := by rw [ha]; exact (putSel_off rfl).trans rfl
            have e79 : a.tmps[79]? = some (.agg #[.int .i64 u.x, .int .i64 u.y, .int .i64 u.d.t, .int .i64 u.d.n, .int .i64 u.d.e, .int .i64 u.d.s, .int .i64 u.d.w, .int .i64 u.d.b]) := by rw [ha]; exact putSel_on (e := (1, 79, .agg #[.int .i64 u.x, .int .i64 u.y, .int .i64 u.d.t, .int .i64 u.d.n, .int .i64 u.d.e, .int .i64 u.d.s, .int .i64 u.d.w, .int .i64 u.d.b])) 0 rfl rfl (hon 1 (by kernel_rfl)) rfl
            have e81 : a.tmps[81]? = some (.int .u8 (byt ii)) := by rw [ha]; exact putSel_on (e := (3, 81, .int .u8 (byt ii))) 1 rfl rfl (hon 3 (by kernel_rfl)) rfl
            replace ha := am ha
            have HB := am Q_HB
            have BG := am Q_BG
            have BN := am Q_BN
            refine call_ 19 #[.slice (some ⟨gb, 0, none⟩) gn gc, .agg #[.int .i64 u.x, .int .i64 u.y, .int .i64 u.d.t, .int .i64 u.d.n, .int .i64 u.d.e, .int .i64 u.d.s, .int .i64 u.d.w, .int .i64 u.d.b], .int .u8 (byt ii)] (by rfl) rfl ?_ ?_
            ·go_simp
             (try rfl)
            with_reducible refine (HMV.out w' HB.out).mono ?_
            rintro e' w1 ⟨rfl, hb⟩
            refine ⟨_, rfl, ?_⟩
            refine hK.out _ _ ⟨gt_, m8_, (by rw [ha.out]; exact putSel_upk 2 hb_ rfl rfl rfl), below_then HB.out HB.out.size hb, ⟨blk_below BG.out.1 hb, BG.out.2⟩, ⟨blk_below BN.out.1 hb, BN.out.2⟩, fun h0_ h1_ => ⟨blk_below (Q_Z0 h0_ h1_).1 hb, (Q_Z0 h0_ h1_).2⟩, fun h0_ => absurd ((hoff 9 (by kernel_rfl)).symm.trans h0_) (by decide), Q_X8_⟩
           refine steps_cons ?_ ?_
           ·rintro b a w' ⟨gt_, m8_, ha, Q_HB, Q_BG, Q_BN, Q_Z0, Q_BT, Q_X8_⟩ hb_ hon hoff
            refine ⟨_, rfl, fun K hK => ?_⟩
            have e82 : a.tmps[82]? = some (.tuple #[.agg #[.int .i64 v.x, .int .i64 v.y, .int .i64 v.d.t, .int .i64 v.d.n, .int .i64 v.d.e, .int .i64 v.d.s, .int .i64 v.d.w, .int .i64 v.d.b], .bool cn]) := by rw [ha]; exact putSel_on (e := (4, 82, .tuple #[.agg #[.int .i64 v.x, .int .i64 v.y, .int .i64 v.d.t, .int .i64 v.d.n, .int .i64 v.d.e, .int .i64 v.d.s, .int .i64 v.d.w, .int .i64 v.d.b], .bool cn])) 2 rfl rfl (hon 4 (by kernel_rfl)) rfl
            replace ha := am ha
            have HB := am Q_HB
            have BG := am Q_BG
            have BN := am Q_BN
            refine value_ (w1 := w') (v := .tuple #[.agg #[.int .i64 v.x, .int .i64 v.y, .int .i64 v.d.t, .int .i64 v.d.n, .int .i64 v.d.e, .int .i64 v.d.s, .int .i64 v.d.w, .int .i64 v.d.b], .bool cn]) (by rfl) rfl ?_ ?_
            ·go_simp
             (try simp only [i64_w])
             try rfl
            refine hK.out _ _ ⟨gt_, m8_, (by rw [ha.out]; exact putSel_upk 3 hb_ rfl rfl rfl), Q_HB, Q_BG, Q_BN, Q_Z0, fun h0_ => absurd ((hoff 9 (by kernel_rfl)).symm.trans h0_) (by decide), Q_X8_⟩
           refine steps_cons ?_ ?_
           ·rintro b a w' ⟨gt_, m8_, ha, Q_HB, Q_BG, Q_BN, Q_Z0, Q_BT, Q_X8_⟩ hb_ hon hoff
            refine ⟨_, rfl, fun K hK => ?_⟩
            have e77 : a.tmps[77]? = some (.tuple #[.agg #[.int .i64 v.x, .int .i64 v.y, .int .i64 v.d.t, .int .i64 v.d.n, .int .i64 v.d.e, .int .i64 v.d.s, .int .i64 v.d.w, .int .i64 v.d.b], .bool cn]) := by rw [ha]; exact putSel_on (e := (5, 77, .tuple #[.agg #[.int .i64 v.x, .int .i64 v.y, .int .i64 v.d.t, .int .i64 v.d.n, .int .i64 v.d.e, .int .i64 v.d.s, .int .i64 v.d.w, .int .i64 v.d.b], .bool cn])) 3 rfl rfl (hon 5 (by kernel_rfl)) rfl
            replace ha := am ha
            have HB := am Q_HB
            have BG := am Q_BG
            have BN := am Q_BN
            refine value_ (w1 := w') (v := .agg #[.int .i64 v.x, .int .i64 v.y, .int .i64 v.d.t, .int .i64 v.d.n, .int .i64 v.d.e, .int .i64 v.d.s, .int .i64 v.d.w, .int .i64 v.d.b]) (by rfl) rfl ?_ ?_
            ·go_simp
             (try simp only [i64_w])
             try rfl
            refine hK.out _ _ ⟨gt_, m8_, (by rw [ha.out]; exact putSel_upk 4 hb_ rfl rfl rfl), Q_HB, Q_BG, Q_BN, Q_Z0, fun h0_ => absurd ((hoff 9 (by kernel_rfl)).symm.trans h0_) (by decide), Q_X8_⟩
           refine steps_cons ?_ ?_
           ·rintro b a w' ⟨gt_, m8_, ha, Q_HB, Q_BG, Q_BN, Q_Z0, Q_BT, Q_X8_⟩ hb_ hon hoff
            refine ⟨_, rfl, fun K hK => ?_⟩
            have e77 : a.tmps[77]? = some (.tuple #[.agg #[.int .i64 v.x, .int .i64 v.y, .int .i64 v.d.t, .int .i64 v.d.n, .int .i64 v.d.e, .int .i64 v.d.s, .int .i64 v.d.w, .int .i64 v.d.b], .bool cn]) := by rw [ha]; exact putSel_on (e := (5, 77, .tuple #[.agg #[.int .i64 v.x, .int .i64 v.y, .int .i64 v.d.t, .int .i64 v.d.n, .int .i64 v.d.e, .int .i64 v.d.s, .int .i64 v.d.w, .int .i64 v.d.b], .bool cn])) 3 rfl rfl (hon 5 (by kernel_rfl)) rfl
            replace ha := am ha
            have HB := am Q_HB
            have BG := am Q_BG
            have BN := am Q_BN
            refine value_ (w1 := w') (v := .bool cn) (by rfl) rfl ?_ ?_
            ·go_simp
             (try simp only [i64_w])
             try rfl
            refine hK.out _ _ ⟨gt_, m8_, (by rw [ha.out]; exact putSel_upk 5 hb_ rfl rfl rfl), Q_HB, Q_BG, Q_BN, Q_Z0, Q_BT, Q_X8_⟩
           refine steps_cons ?_ ?_
           ·rintro b a w' ⟨gt_, m8_, ha, Q_HB, Q_BG, Q_BN, Q_Z0, Q_BT, Q_X8_⟩ hb_ hon hoff
            refine ⟨_, rfl, fun K hK => ?_⟩
            replace ha := am ha
            have HB := am Q_HB
            have BG := am Q_BG
            have BN := am Q_BN
            refine value_ (w1 := ?_) (v := ?_) (by rfl) rfl ?_ ?_
            rotate_left 2
            ·go_simp
             constructor
             ·rfl
             ·rfl
            refine hK.out _ _ ⟨w'.heap.size, (.pointer (some ⟨w'.heap.size, 0, none⟩)), (by rw [ha.out]; exact putSel_upk 6 hb_ rfl rfl rfl), below_alloc HB.out _, ⟨blk_alloc BG.out.1 _, BG.out.2⟩, ⟨blk_alloc BN.out.1 _, BN.out.2⟩, fun _ _ => ⟨blk_new _ _, HB.out.size, Nat.ne_of_lt (blk_lt BG.out.1), Nat.ne_of_lt (blk_lt BN.out.1)⟩, fun h0_ => absurd ((hoff 9 (by kernel_rfl)).symm.trans h0_) (by decide), fun _ => rfl⟩
           refine steps_cons ?_ ?_
           ·rintro b a w' ⟨gt_, m8_, ha, Q_HB, Q_BG, Q_BN, Q_Z0, Q_BT, Q_X8_⟩ hb_ hon hoff
            refine ⟨_, rfl, fun K hK => ?_⟩
            have e20 : a.tmps[20]? = some (m8_) := by rw [ha]; exact putSel_on (e := (8, 20, m8_)) 6 rfl rfl (hon 8 (by kernel_rfl)) rfl
            rw [Q_X8_ (hon 8 (by kernel_rfl))] at e20
            have e83 : a.tmps[83]? = some (.agg #[.int .i64 v.x, .int .i64 v.y, .int .i64 v.d.t, .int .i64 v.d.n, .int .i64 v.d.e, .int .i64 v.d.s, .int .i64 v.d.w, .int .i64 v.d.b]) := by rw [ha]; exact putSel_on (e := (6, 83, .agg #[.int .i64 v.x, .int .i64 v.y, .int .i64 v.d.t, .int .i64 v.d.n, .int .i64 v.d.e, .int .i64 v.d.s, .int .i64 v.d.w, .int .i64 v.d.b])) 4 rfl rfl (hon 6 (by kernel_rfl)) rfl
            replace ha := am ha
            have HB := am Q_HB
            have BG := am Q_BG
            have BN := am Q_BN
            have Z0 := am (Q_Z0 (hon 8 (by kernel_rfl)) hb_)
            have z0 : w'.cell? ⟨gt_, 0, none⟩ = some (.int .i64 0) := blk_cell Z0.out.1 0
            have z1 : w'.cell? ⟨gt_, 1, none⟩ = some (.int .i64 0) := blk_cell Z0.out.1 1
            have z2 : w'.cell? ⟨gt_, 2, none⟩ = some (.int .i64 0) := blk_cell Z0.out.1 2
            have z3 : w'.cell? ⟨gt_, 3, none⟩ = some (.int .i64 0) := blk_cell Z0.out.1 3
            have z4 : w'.cell? ⟨gt_, 4, none⟩ = some (.int .i64 0) := blk_cell Z0.out.1 4
            have z5 : w'.cell? ⟨gt_, 5, none⟩ = some (.int .i64 0) := blk_cell Z0.out.1 5
            have z6 : w'.cell? ⟨gt_, 6, none⟩ = some (.int .i64 0) := blk_cell Z0.out.1 6
            have z7 : w'.cell? ⟨gt_, 7, none⟩ = some (.int .i64 0) := blk_cell Z0.out.1 7
            have zf0 := blk_frozen Z0.out.1 0
            have zf1 := blk_frozen Z0.out.1 1
            have zf2 := blk_frozen Z0.out.1 2
            have zf3 := blk_frozen Z0.out.1 3
            have zf4 := blk_frozen Z0.out.1 4
            have zf5 := blk_frozen Z0.out.1 5
            have zf6 := blk_frozen Z0.out.1 6
            have zf7 := blk_frozen Z0.out.1 7
            have hz2_ := Z0.out.2
            refine skip_ (w1 := ?_) (by rfl) rfl ?_ ?_
            rotate_left
            ·go_simp
             rfl
            refine hK.out _ _ ⟨gt_, m8_, (by rw [ha.out]; exact putSel_none (v := undef) rfl), (below_set (below_set (below_set (below_set (below_set (below_set (below_set (below_set HB.out hz2_.1) hz2_.1) hz2_.1) hz2_.1) hz2_.1) hz2_.1) hz2_.1) hz2_.1), ⟨(blk_far (blk_far (blk_far (blk_far (blk_far (blk_far (blk_far (blk_far BG.out.1 hz2_.2.1 _) hz2_.2.1 _) hz2_.2.1 _) hz2_.2.1 _) hz2_.2.1 _) hz2_.2.1 _) hz2_.2.1 _) hz2_.2.1 _), BG.out.2⟩, ⟨(blk_far (blk_far (blk_far (blk_far (blk_far (blk_far (blk_far (blk_far BN.out.1 hz2_.2.2 _) hz2_.2.2 _) hz2_.2.2 _) hz2_.2.2 _) hz2_.2.2 _) hz2_.2.2 _) hz2_.2.2 _) hz2_.2.2 _), BN.out.2⟩, fun _ h1_ => absurd ((up_self b 9).symm.trans h1_) (by decide), fun _ => ⟨(blk_put (cs := #[.int .i64 v.x, .int .i64 v.y, .int .i64 v.d.t, .int .i64 v.d.n, .int .i64 v.d.e, .int .i64 v.d.s, .int .i64 v.d.w, .int .i64 0]) (blk_put (cs := #[.int .i64 v.x, .int .i64 v.y, .int .i64 v.d.t, .int .i64 v.d.n, .int .i64 v.d.e, .int .i64 v.d.s, .int .i64 0, .int .i64 0]) (blk_put (cs := #[.int .i64 v.x, .int .i64 v.y, .int .i64 v.d.t, .int .i64 v.d.n, .int .i64 v.d.e, .int .i64 0, .int .i64 0, .int .i64 0]) (blk_put (cs := #[.int .i64 v.x, .int .i64 v.y, .int .i64 v.d.t, .int .i64 v.d.n, .int .i64 0, .int .i64 0, .int .i64 0, .int .i64 0]) (blk_put (cs := #[.int .i64 v.x, .int .i64 v.y, .int .i64 v.d.t, .int .i64 0, .int .i64 0, .int .i64 0, .int .i64 0, .int .i64 0]) (blk_put (cs := #[.int .i64 v.x, .int .i64 v.y, .int .i64 0, .int .i64 0, .int .i64 0, .int .i64 0, .int .i64 0, .int .i64 0]) (blk_put (cs := #[.int .i64 v.x, .int .i64 0, .int .i64 0, .int .i64 0, .int .i64 0, .int .i64 0, .int .i64 0, .int .i64 0]) (blk_put (cs := #[.int .i64 0, .int .i64 0, .int .i64 0, .int .i64 0, .int .i64 0, .int .i64 0, .int .i64 0, .int .i64 0]) Z0.out.1 0 _ rfl) 1 _ rfl) 2 _ rfl) 3 _ rfl) 4 _ rfl) 5 _ rfl) 6 _ rfl) 7 _ rfl), hz2_⟩, Q_X8_⟩
           refine steps_cons ?_ ?_
           ·rintro b a w' ⟨gt_, m8_, ha, Q_HB, Q_BG, Q_BN, Q_Z0, Q_BT, Q_X8_⟩ hb_ hon hoff
            refine ⟨_, rfl, fun K hK => ?_⟩
            have e84 : a.tmps[84]? = some (.bool cn) := by rw [ha]; exact putSel_on (e := (7, 84, .bool cn)) 5 rfl rfl (hon 7 (by kernel_rfl)) rfl
            replace ha := am ha
            have HB := am Q_HB
            have BG := am Q_BG
            have BN := am Q_BN
            have BT := am (Q_BT (hon 9 (by kernel_rfl)))
            refine value_ (w1 := w') (v := .bool cn) (by rfl) rfl ?_ ?_
            ·go_simp
             (try simp only [i64_w])
             try rfl
            refine hK.out _ _ ⟨gt_, m8_, (by rw [ha.out]; exact putSel_upk 7 hb_ rfl rfl rfl), Q_HB, Q_BG, Q_BN, fun _ h1_ => absurd ((hon 9 (by kernel_rfl)).symm.trans h1_) (by decide), Q_BT, Q_X8_⟩
           exact steps_nil
          ·rintro b a w' hall ⟨gt_, m8_, ha, Q_HB, Q_BG, Q_BN, Q_Z0, Q_BT, Q_X8_⟩
           clear BG BN HB
           have hb1_ := hall 1 (by kernel_rfl)
           have hb3_ := hall 3 (by kernel_rfl)
           have hb4_ := hall 4 (by kernel_rfl)
           have hb5_ := hall 5 (by kernel_rfl)
           have hb6_ := hall 6 (by kernel_rfl)
           have hb7_ := hall 7 (by kernel_rfl)
           have hb8_ := hall 8 (by kernel_rfl)
           have hb9_ := hall 9 (by kernel_rfl)
           have hb10_ := hall 10 (by kernel_rfl)
           subst ha
           obtain rfl := Q_X8_ hb8_
           simp only [putSel, hb1_, hb3_, hb4_, hb5_, hb6_, hb7_, hb8_, hb9_, hb10_, if_true, Act.put, List.setIfInBounds_toArray, List.set_cons_zero, List.set_cons_succ]
           have HB := am Q_HB
           clear Q_HB
           have BG := am Q_BG
           clear Q_BG
           have BN := am Q_BN
           clear Q_BN
           clear Q_Z0
           have BT := am (Q_BT hb9_)
           clear Q_BT
           clear hall hb1_ hb3_ hb4_ hb5_ hb6_ hb7_ hb8_ hb9_ hb10_
           cases cn with
           | false =>
            have HNX := hid (nx_no HX.out HU.out.2.symm)
            go_wp2_with fail
            go_quiet (fail)
            go_wp2_with fail
            go_roundw
            case rel => exact ⟨ii + 1, rfl, by go_num, HI4.out, (fun d b hd hn => by
             by_cases e : d = ii
             ·subst e
              rw [HNX.out] at hn
              cases hn
             ·exact HNO.out d b (by omega) hn), (by rw [HPK.out, show 4 - ii = (4 - (ii + 1)) + 1 by have := HI4.out; omega, Cheap.pick_no (fun b hn => by rw [HNX.out] at hn; cases hn)]), blk_drewN BG.out.1 _, blk_drewN BN.out.1 _, pw_below_drewN HB.out _⟩
            case measure =>
             have := HI4.out
             simp [intOf]
             omega
           | true =>
            obtain ⟨pp, y', hpl, hy, hyu, hpn⟩ := goes HD.out HX.out HI4.out HU.out.2.symm
            have HNX := hid (nx_yes HX.out HU.out.2.symm hpl)
            have hpk : pp < kk := by rw [HKK.out]; exact hpn
            have HPV := hid hpk
            have HPL2 := hid (show ((Maps.place v 0 (L.map (·.1))).map valN).getD (.int .i64 0) = .int .i64 (pp : Int) by rw [HU.out.1, hpl]; rfl)
            have HTOP := hid (show topL L pp = v.d.t by unfold topL; rw [hy]; show y'.1.d.t = _; rw [hyu, HU.out.1])
            obtain ⟨wd2, hy2⟩ : ∃ wd2, L[pp]? = some (v, wd2) := ⟨y'.2, by rw [hy, HU.out.1, ← hyu]⟩
            have HY := hid hy2
            have HIFF := hid (show g pp = (cn_ - v.d.t, rn_ - 1) ↔ leastT (nxL fl0 L) (topL L) (TL (test x y) L) pp = some (cn_ - topL L pp, (f : Int)) by
             have h_ := Cheap.prog_iff HG.out HIF.out.1 HIF.out.2 HA.out hpk (by rw [← HGN.out]; exact HDN.out)
             rw [← HGN.out, HTOP.out] at h_
             rw [HTOP.out, show (f : Int) = rn_ - 1 by have := HF.out; omega]
             exact h_)
            have hb_ := Price.inv_nums HG.out HIF.out.1 HA.out
            rw [← HGN.out] at hb_
            have ht_ := HG.out.top pp hpk
            rw [HTOP.out] at ht_
            unfold Price.dear at hb_
            simp only at hb_
            have hw1_ : IntKind.i64.wrap (cn_ - v.d.t) = cn_ - v.d.t := IntWalk.i64_in _ (by omega)
            have hw2_ : IntKind.i64.wrap (rn_ - 1) = rn_ - 1 := IntWalk.i64_in _ (by omega)
            obtain ⟨⟨c5, r5⟩, hg5⟩ : ∃ p, p = g pp := ⟨_, rfl⟩
            rw [← hg5] at HIFF
            have HG5 := hid hg5
            obtain ⟨⟨q0_, q1_⟩, _, _⟩ := pr_cells (Kd.R_below HR.out HB.out) pp (c5, r5) (by rw [hg5]; exact row_at g hpk)
            simp only at q0_ q1_
            have hp0_ : (0 : Int) ≤ (pp : Int) := by omega
            have hp1_ : (pp : Int) < (kk : Int) := by omega
            have hlk_ : ∀ m, (Instr.lookup 63 (.map (some M)) (.agg (st8 v)) false).run Tryd.prog (w'.drewN m) = .ok (.int .i64 (pp : Int)) (w'.drewN m) := fun m => by
             have h_ := look_run (val := valN) fits Tryd.underlying63 (Reached.zeroI (w'.drewN m)) (RS.below HRS.out (pw_below_drewN HB.out m)).map v false
             rw [HPL2.out] at h_
             exact h_
            have hf_ : w'.cell? ⟨Br, 4, none⟩ = some (.map (some M)) := blk_cell (RS.below HRS.out HB.out).blk 4
            have n0_ : w'.cell? ⟨gl_, 0, none⟩ = some (.int .i64 cn_) := blk_cell BN.out.1 0
            have n1_ : w'.cell? ⟨gl_, 1, none⟩ = some (.int .i64 rn_) := blk_cell BN.out.1 1
            have m0_ : w'.cell? ⟨gt_, 0, none⟩ = some (.int .i64 v.x) := blk_cell BT.out.1 0
            have m1_ : w'.cell? ⟨gt_, 1, none⟩ = some (.int .i64 v.y) := blk_cell BT.out.1 1
            have m2_ : w'.cell? ⟨gt_, 2, none⟩ = some (.int .i64 v.d.t) := blk_cell BT.out.1 2
            have m3_ : w'.cell? ⟨gt_, 3, none⟩ = some (.int .i64 v.d.n) := blk_cell BT.out.1 3
            have m4_ : w'.cell? ⟨gt_, 4, none⟩ = some (.int .i64 v.d.e) := blk_cell BT.out.1 4
            have m5_ : w'.cell? ⟨gt_, 5, none⟩ = some (.int .i64 v.d.s) := blk_cell BT.out.1 5
            have m6_ : w'.cell? ⟨gt_, 6, none⟩ = some (.int .i64 v.d.w) := blk_cell BT.out.1 6
            have m7_ : w'.cell? ⟨gt_, 7, none⟩ = some (.int .i64 v.d.b) := blk_cell BT.out.1 7
            clear hpl hy hyu hpn hb_ ht_ hpk hg5 hy2
            by_cases he1 : c5 = cn_ - v.d.t
            ·have e1_ : (c5 == cn_ - v.d.t) = true := by simpa using he1
             by_cases he2 : r5 = rn_ - 1
             ·have e2_ : (r5 == rn_ - 1) = true := by simpa using he2
              have HL := hid (HIFF.out.1 (by rw [he1, he2]))
              have HE5 := hid (And.intro he1 he2)
              clear he1 he2
              go_wp2_with fail
              go_quiet (fail)
              have n_HB := hid (pw_below_drewN HB.out nq)
              have n_BG := hid (And.intro (blk_drewN BG.out.1 nq) BG.out.2)
              have n_BT := hid (And.intro (blk_drewN BT.out.1 nq) BT.out.2)
              clear HB BG BN BT hlk_ hf_ q0_ q1_ n0_ n1_ hw1_ hw2_ m0_ m1_ m2_ m3_ m4_ m5_ m6_ m7_
              have HB := n_HB
              have BG := n_BG
              have BT := n_BT
              clear n_HB n_BG n_BT
              generalize World.drewN _ _ = w15 at HB BG BT ⊢
              have HACC2 := hid (show (acc ++ letter ii) ++ wayT (nxL fl0 L) (topL L) (TL (test x y) L) (g pp).2.toNat pp (g pp).1 = res.1 by
               rw [← HACC.out, ByteArray.append_assoc, show rn_.toNat = f + 1 by have := HF.out; omega,
                Cheap.way_step (by rw [HPK.out, show 4 - ii = (3 - ii) + 1 by have := HI4.out; omega]; exact Cheap.pick_yes HNX.out HL.out), ← HG5.out]
               simp only
               rw [HE5.out.1, HE5.out.2, HTOP.out, show (rn_ - 1).toNat = f by have := HF.out; omega])
              have HSZ2 := hid (show acc.size + (letter ii).size ≤ 9223372036854775807 by rw [letter_size]; have := HSZ.out; have := H60.out; omega)
              go_upto_region 16 with fail
              refine start_ (n := 9) (S := fun w' => True) (ds := []) #[ff, ff, ff, ff, ff, ff, ff, ff, ff] (by kernel_rfl) rfl rfl trivial (fun hHeld => ?_)
              refine with_tabW chi.tab16 chi.bits16 (fun HT_ HW_ => ?_)
              have n_HB := hid (below_drew HB.out)
              have n_BT := hid (And.intro (blk_drew BT.out.1) BT.out.2)
              have n_BG := hid (And.intro (blk_drew BG.out.1) BG.out.2)
              clear HB BT BG
              have HB := n_HB
              have BT := n_BT
              have BG := n_BG
              clear n_HB n_BT n_BG
              generalize World.drew _ = w16 at HB BT BG hHeld ⊢
              refine pure_ (i := 0) (N := some 108) (v := ?_) (a' := ?_) #[tt, ff, ff, ff, ff, ff, ff, ff, ff] rfl rfl (any_of HT_.out (by kernel_rfl)) (fun _ _ _ h => h) (Or.inl ⟨by rfl, ?_⟩) ?_ ?_
              rotate_left
              ·intro w'
               go_simp
               with_reducible rfl
              rotate_left
              ·simp only [Act.put, List.setIfInBounds_toArray, List.set_cons_zero, List.set_cons_succ, i64_w, i32_w]
               rfl
              refine pure_ (i := 1) (N := some 109) (v := ?_) (a' := ?_) #[tt, tt, ff, ff, ff, ff, ff, ff, ff] rfl rfl (any_of HT_.out (by kernel_rfl)) (fun _ _ _ h => h) (Or.inl ⟨by rfl, ?_⟩) ?_ ?_
              rotate_left
              ·intro w'
               go_simp
               with_reducible rfl
              rotate_left
              ·simp only [Act.put, List.setIfInBounds_toArray, List.set_cons_zero, List.set_cons_succ, i64_w, i32_w]
               rfl
              refine pure_ (i := 2) (N := some 110) (v := ?_) (a' := ?_) #[tt, tt, tt, ff, ff, ff, ff, ff, ff] rfl rfl (any_of HT_.out (by kernel_rfl)) (fun _ _ _ h => h) (Or.inl ⟨by rfl, ?_⟩) ?_ ?_
              rotate_left
              ·intro w'
               go_simp
               with_reducible rfl
              rotate_left
              ·simp only [Act.put, List.setIfInBounds_toArray, List.set_cons_zero, List.set_cons_succ, i64_w, i32_w]
               rfl
              refine inv_at [3, 4, 5, 6, 7, 8] (fun a0_ b a w' => a = putSel a0_ b [(3, 111, .int .i64 ((ii : Int) + 1)), (4, 112, .string (letter ii)), (5, 113, .string (acc ++ letter ii)), (6, 114, .agg #[.int .i64 v.x, .int .i64 v.y, .int .i64 v.d.t, .int .i64 v.d.n, .int .i64 v.d.e, .int .i64 v.d.s, .int .i64 v.d.w, .int .i64 v.d.b]), (7, 16, .string (acc ++ letter ii))] ∧ (Below w6.heap.size w6 w') ∧ (w'.heap[gt_]? = some (.cells (st8 v) 30 (0, 0)) ∧ w6.heap.size ≤ gt_ ∧ go_ ≠ gt_ ∧ gl_ ≠ gt_) ∧ (b 8 = false → w'.heap[go_]? = some (.cells (st8 u) 30 (0, 0)) ∧ w6.heap.size ≤ go_) ∧ (b 8 = true → w'.heap[go_]? = some (.cells (st8 v) 30 (0, 0)) ∧ w6.heap.size ≤ go_)) HT_.out HW_.out (by kernel_rfl) (by kernel_rfl) ?_ ?_ ?_
              ·exact ⟨by simp only [putSel, Bool.false_eq_true, if_false], HB.out, BT.out, fun _ => BG.out, fun h_ => absurd h_ (by decide)⟩
              ·skip
               clear BG BT HB
               refine steps_cons ?_ ?_
               ·rintro b a w' ⟨ha, Q_HB, Q_BT, Q_BG, Q_BH⟩ hb_ hon hoff
                refine ⟨_, rfl, fun K hK => ?_⟩
                have e110 : a.tmps[110]? = some (.int .i64 (ii : Int)) := by rw [ha]; exact (putSel_off rfl).trans rfl
                replace ha := am ha
                have HB := am Q_HB
                have BT := am Q_BT
                have BG := am (Q_BG (hoff 8 (by kernel_rfl)))
                have hw_ : IntKind.i64.wrap ((ii : Int) + 1) = (ii : Int) + 1 := IntWalk.i64_in _ (by have h_ := HI4.out; omega)
                refine value_ (w1 := w') (v := .int .i64 ((ii : Int) + 1)) (by rfl) rfl ?_ ?_
                ·go_simp
                 (try simp only [i64_w])
                 try rfl
                refine hK.out _ _ ⟨(by rw [ha.out]; exact putSel_upk 0 hb_ rfl rfl rfl), Q_HB, Q_BT, Q_BG, fun h0_ => absurd ((hoff 8 (by kernel_rfl)).symm.trans h0_) (by decide)⟩
               refine steps_cons ?_ ?_
               ·rintro b a w' ⟨ha, Q_HB, Q_BT, Q_BG, Q_BH⟩ hb_ hon hoff
                refine ⟨_, rfl, fun K hK => ?_⟩
                have e109 : a.tmps[109]? = some (.int .i64 (ii : Int)) := by rw [ha]; exact (putSel_off rfl).trans rfl
                have e111 : a.tmps[111]? = some (.int .i64 ((ii : Int) + 1)) := by rw [ha]; exact putSel_on (e := (3, 111, .int .i64 ((ii : Int) + 1))) 0 rfl rfl (hon 3 (by kernel_rfl)) rfl
                replace ha := am ha
                have HB := am Q_HB
                have BT := am Q_BT
                have BG := am (Q_BG (hoff 8 (by kernel_rfl)))
                have hsl_ := slice_dir ii HI4.out w'
                refine value_ (w1 := w') (v := .string (letter ii)) (by rfl) rfl ?_ ?_
                ·go_simp
                 (try simp only [i64_w])
                 try rfl
                refine hK.out _ _ ⟨(by rw [ha.out]; exact putSel_upk 1 hb_ rfl rfl rfl), Q_HB, Q_BT, Q_BG, fun h0_ => absurd ((hoff 8 (by kernel_rfl)).symm.trans h0_) (by decide)⟩
               refine steps_cons ?_ ?_
               ·rintro b a w' ⟨ha, Q_HB, Q_BT, Q_BG, Q_BH⟩ hb_ hon hoff
                refine ⟨_, rfl, fun K hK => ?_⟩
                have e108 : a.tmps[108]? = some (.string acc) := by rw [ha]; exact (putSel_off rfl).trans rfl
                have e112 : a.tmps[112]? = some (.string (letter ii)) := by rw [ha]; exact putSel_on (e := (4, 112, .string (letter ii))) 1 rfl rfl (hon 4 (by kernel_rfl)) rfl
                replace ha := am ha
                have HB := am Q_HB
                have BT := am Q_BT
                have BG := am (Q_BG (hoff 8 (by kernel_rfl)))
                have hsz_ : acc.size + (letter ii).size ≤ 9223372036854775807 := HSZ2.out
                refine value_ (w1 := w') (v := .string (acc ++ letter ii)) (by rfl) rfl ?_ ?_
                ·go_simp
                 (try simp only [i64_w])
                 try rfl
                refine hK.out _ _ ⟨(by rw [ha.out]; exact putSel_upk 2 hb_ rfl rfl rfl), Q_HB, Q_BT, Q_BG, fun h0_ => absurd ((hoff 8 (by kernel_rfl)).symm.trans h0_) (by decide)⟩
               refine steps_cons ?_ ?_
               ·rintro b a w' ⟨ha, Q_HB, Q_BT, Q_BG, Q_BH⟩ hb_ hon hoff
                refine ⟨_, rfl, fun K hK => ?_⟩
                have e20 : a.tmps[20]? = some (.pointer (some ⟨gt_, 0, none⟩)) := by rw [ha]; exact (putSel_off rfl).trans rfl
                replace ha := am ha
                have HB := am Q_HB
                have BT := am Q_BT
                have BG := am (Q_BG (hoff 8 (by kernel_rfl)))
                have o0 : w'.cell? ⟨gt_, 0, none⟩ = some (.int .i64 v.x) := blk_cell BT.out.1 0
                have o1 : w'.cell? ⟨gt_, 1, none⟩ = some (.int .i64 v.y) := blk_cell BT.out.1 1
                have o2 : w'.cell? ⟨gt_, 2, none⟩ = some (.int .i64 v.d.t) := blk_cell BT.out.1 2
                have o3 : w'.cell? ⟨gt_, 3, none⟩ = some (.int .i64 v.d.n) := blk_cell BT.out.1 3
                have o4 : w'.cell? ⟨gt_, 4, none⟩ = some (.int .i64 v.d.e) := blk_cell BT.out.1 4
                have o5 : w'.cell? ⟨gt_, 5, none⟩ = some (.int .i64 v.d.s) := blk_cell BT.out.1 5
                have o6 : w'.cell? ⟨gt_, 6, none⟩ = some (.int .i64 v.d.w) := blk_cell BT.out.1 6
                have o7 : w'.cell? ⟨gt_, 7, none⟩ = some (.int .i64 v.d.b) := blk_cell BT.out.1 7
                refine value_ (w1 := w') (v := .agg #[.int .i64 v.x, .int .i64 v.y, .int .i64 v.d.t, .int .i64 v.d.n, .int .i64 v.d.e, .int .i64 v.d.s, .int .i64 v.d.w, .int .i64 v.d.b]) (by rfl) rfl ?_ ?_
                ·go_simp
                 (try simp only [i64_w])
                 try rfl
                refine hK.out _ _ ⟨(by rw [ha.out]; exact putSel_upk 3 hb_ rfl rfl rfl), Q_HB, Q_BT, Q_BG, fun h0_ => absurd ((hoff 8 (by kernel_rfl)).symm.trans h0_) (by decide)⟩
               refine steps_cons ?_ ?_
               ·rintro b a w' ⟨ha, Q_HB, Q_BT, Q_BG, Q_BH⟩ hb_ hon hoff
                refine ⟨_, rfl, fun K hK => ?_⟩
                have e113 : a.tmps[113]? = some (.string (acc ++ letter ii)) := by rw [ha]; exact putSel_on (e := (5, 113, .string (acc ++ letter ii))) 2 rfl rfl (hon 5 (by kernel_rfl)) rfl
                replace ha := am ha
                have HB := am Q_HB
                have BT := am Q_BT
                have BG := am (Q_BG (hoff 8 (by kernel_rfl)))
                refine value_ (w1 := w') (v := .string (acc ++ letter ii)) (by rfl) rfl ?_ ?_
                ·go_simp
                 (try simp only [i64_w])
                 try rfl
                refine hK.out _ _ ⟨(by rw [ha.out]; exact putSel_upk 4 hb_ rfl rfl rfl), Q_HB, Q_BT, Q_BG, fun h0_ => absurd ((hoff 8 (by kernel_rfl)).symm.trans h0_) (by decide)⟩
               refine steps_cons ?_ ?_
               ·rintro b a w' ⟨ha, Q_HB, Q_BT, Q_BG, Q_BH⟩ hb_ hon hoff
                refine ⟨_, rfl, fun K hK => ?_⟩
                have e17 : a.tmps[17]? = some (.pointer (some ⟨go_, 0, none⟩)) := by rw [ha]; exact (putSel_off rfl).trans rfl
                have e114 : a.tmps[114]? = some (.agg #[.int .i64 v.x, .int .i64 v.y, .int .i64 v.d.t, .int .i64 v.d.n, .int .i64 v.d.e, .int .i64 v.d.s, .int .i64 v.d.w, .int .i64 v.d.b]) := by rw [ha]; exact putSel_on (e := (6, 114, .agg #[.int .i64 v.x, .int .i64 v.y, .int .i64 v.d.t, .int .i64 v.d.n, .int .i64 v.d.e, .int .i64 v.d.s, .int .i64 v.d.w, .int .i64 v.d.b])) 3 rfl rfl (hon 6 (by kernel_rfl)) rfl
                replace ha := am ha
                have HB := am Q_HB
                have BT := am Q_BT
                have BG := am (Q_BG hb_)
                have z0 : w'.cell? ⟨go_, 0, none⟩ = some (.int .i64 u.x) := blk_cell BG.out.1 0
                have z1 : w'.cell? ⟨go_, 1, none⟩ = some (.int .i64 u.y) := blk_cell BG.out.1 1
                have z2 : w'.cell? ⟨go_, 2, none⟩ = some (.int .i64 u.d.t) := blk_cell BG.out.1 2
                have z3 : w'.cell? ⟨go_, 3, none⟩ = some (.int .i64 u.d.n) := blk_cell BG.out.1 3
                have z4 : w'.cell? ⟨go_, 4, none⟩ = some (.int .i64 u.d.e) := blk_cell BG.out.1 4
                have z5 : w'.cell? ⟨go_, 5, none⟩ = some (.int .i64 u.d.s) := blk_cell BG.out.1 5
                have z6 : w'.cell? ⟨go_, 6, none⟩ = some (.int .i64 u.d.w) := blk_cell BG.out.1 6
                have z7 : w'.cell? ⟨go_, 7, none⟩ = some (.int .i64 u.d.b) := blk_cell BG.out.1 7
                have zf0 := blk_frozen BG.out.1 0
                have zf1 := blk_frozen BG.out.1 1
                have zf2 := blk_frozen BG.out.1 2
                have zf3 := blk_frozen BG.out.1 3
                have zf4 := blk_frozen BG.out.1 4
                have zf5 := blk_frozen BG.out.1 5
                have zf6 := blk_frozen BG.out.1 6
                have zf7 := blk_frozen BG.out.1 7
                have hz2_ := BG.out.2
                have hnt_ := BT.out.2.2.1
                refine skip_ (w1 := ?_) (by rfl) rfl ?_ ?_
                rotate_left
                ·go_simp
                 rfl
                refine hK.out _ _ ⟨(by rw [ha.out]; exact putSel_none (v := undef) rfl), (below_set (below_set (below_set (below_set (below_set (below_set (below_set (below_set HB.out hz2_) hz2_) hz2_) hz2_) hz2_) hz2_) hz2_) hz2_), ⟨(blk_far (blk_far (blk_far (blk_far (blk_far (blk_far (blk_far (blk_far BT.out.1 hnt_.symm _) hnt_.symm _) hnt_.symm _) hnt_.symm _) hnt_.symm _) hnt_.symm _) hnt_.symm _) hnt_.symm _), BT.out.2⟩, fun h0_ => absurd ((up_self b 8).symm.trans h0_) (by decide), fun _ => ⟨(blk_put (cs := #[.int .i64 v.x, .int .i64 v.y, .int .i64 v.d.t, .int .i64 v.d.n, .int .i64 v.d.e, .int .i64 v.d.s, .int .i64 v.d.w, .int .i64 u.d.b]) (cs' := #[.int .i64 v.x, .int .i64 v.y, .int .i64 v.d.t, .int .i64 v.d.n, .int .i64 v.d.e, .int .i64 v.d.s, .int .i64 v.d.w, .int .i64 v.d.b]) (blk_put (cs := #[.int .i64 v.x, .int .i64 v.y, .int .i64 v.d.t, .int .i64 v.d.n, .int .i64 v.d.e, .int .i64 v.d.s, .int .i64 u.d.w, .int .i64 u.d.b]) (cs' := #[.int .i64 v.x, .int .i64 v.y, .int .i64 v.d.t, .int .i64 v.d.n, .int .i64 v.d.e, .int .i64 v.d.s, .int .i64 v.d.w, .int .i64 u.d.b]) (blk_put (cs := #[.int .i64 v.x, .int .i64 v.y, .int .i64 v.d.t, .int .i64 v.d.n, .int .i64 v.d.e, .int .i64 u.d.s, .int .i64 u.d.w, .int .i64 u.d.b]) (cs' := #[.int .i64 v.x, .int .i64 v.y, .int .i64 v.d.t, .int .i64 v.d.n, .int .i64 v.d.e, .int .i64 v.d.s, .int .i64 u.d.w, .int .i64 u.d.b]) (blk_put (cs := #[.int .i64 v.x, .int .i64 v.y, .int .i64 v.d.t, .int .i64 v.d.n, .int .i64 u.d.e, .int .i64 u.d.s, .int .i64 u.d.w, .int .i64 u.d.b]) (cs' := #[.int .i64 v.x, .int .i64 v.y, .int .i64 v.d.t, .int .i64 v.d.n, .int .i64 v.d.e, .int .i64 u.d.s, .int .i64 u.d.w, .int .i64 u.d.b]) (blk_put (cs := #[.int .i64 v.x, .int .i64 v.y, .int .i64 v.d.t, .int .i64 u.d.n, .int .i64 u.d.e, .int .i64 u.d.s, .int .i64 u.d.w, .int .i64 u.d.b]) (cs' := #[.int .i64 v.x, .int .i64 v.y, .int .i64 v.d.t, .int .i64 v.d.n, .int .i64 u.d.e, .int .i64 u.d.s, .int .i64 u.d.w, .int .i64 u.d.b]) (blk_put (cs := #[.int .i64 v.x, .int .i64 v.y, .int .i64 u.d.t, .int .i64 u.d.n, .int .i64 u.d.e, .int .i64 u.d.s, .int .i64 u.d.w, .int .i64 u.d.b]) (cs' := #[.int .i64 v.x, .int .i64 v.y, .int .i64 v.d.t, .int .i64 u.d.n, .int .i64 u.d.e, .int .i64 u.d.s, .int .i64 u.d.w, .int .i64 u.d.b]) (blk_put (cs := #[.int .i64 v.x, .int .i64 u.y, .int .i64 u.d.t, .int .i64 u.d.n, .int .i64 u.d.e, .int .i64 u.d.s, .int .i64 u.d.w, .int .i64 u.d.b]) (cs' := #[.int .i64 v.x, .int .i64 v.y, .int .i64 u.d.t, .int .i64 u.d.n, .int .i64 u.d.e, .int .i64 u.d.s, .int .i64 u.d.w, .int .i64 u.d.b]) (blk_put (cs := #[.int .i64 u.x, .int .i64 u.y, .int .i64 u.d.t, .int .i64 u.d.n, .int .i64 u.d.e, .int .i64 u.d.s, .int .i64 u.d.w, .int .i64 u.d.b]) (cs' := #[.int .i64 v.x, .int .i64 u.y, .int .i64 u.d.t, .int .i64 u.d.n, .int .i64 u.d.e, .int .i64 u.d.s, .int .i64 u.d.w, .int .i64 u.d.b]) BG.out.1 0 _ rfl) 1 _ rfl) 2 _ rfl) 3 _ rfl) 4 _ rfl) 5 _ rfl) 6 _ rfl) 7 _ rfl), hz2_⟩⟩
               exact steps_nil
              ·rintro b a w' hall ⟨ha, Q_HB, Q_BT, Q_BG, Q_BH⟩
               clear BG BT HB
               have hb3_ := hall 3 (by kernel_rfl)
               have hb4_ := hall 4 (by kernel_rfl)
               have hb5_ := hall 5 (by kernel_rfl)
               have hb6_ := hall 6 (by kernel_rfl)
               have hb7_ := hall 7 (by kernel_rfl)
               have hb8_ := hall 8 (by kernel_rfl)
               subst ha
               simp only [putSel, hb3_, hb4_, hb5_, hb6_, hb7_, hb8_, if_true, Act.put, List.setIfInBounds_toArray, List.set_cons_zero, List.set_cons_succ]
               have HB := am Q_HB
               clear Q_HB
               have BT := am Q_BT
               clear Q_BT
               clear Q_BG
               have BH := am (Q_BH hb8_)
               clear Q_BH
               clear hall hb3_ hb4_ hb5_ hb6_ hb7_ hb8_
               go_wp2_with fail
               go_roundg ((g pp).2.toNat + 1)
               case rel => exact ⟨acc ++ letter ii, v, wd2, pp, rfl, HY.out, (by rw [← HG5.out]; have h_ := HDN.out; have h5_ := HE5.out.1; have ht_ := HG.out.top pp HPV.out; rw [HTOP.out] at ht_; simp only at h_ ⊢; omega), rfl, HACC2.out, (by rw [ByteArray.size_append, letter_size, ← HG5.out]; have := HSZ.out; have := HE5.out.2; have := HF.out; simp only at *; omega), BH.out.1, HB.out⟩
               case measure =>
                rw [← HG5.out]
                have := HGK.out
                have := HE5.out.2
                have := HF.out
                simp only at *
                omega
             ·have e2_ : (r5 == rn_ - 1) = false := by simpa using he2
              have HL := hid (fun h_ => he2 (by have := HIFF.out.2 h_; injection this))
              go_wp2_with fail
              go_quiet (fail)
              go_wp2_with fail
              go_roundw
              case rel => exact ⟨ii + 1, rfl, by go_num, HI4.out, (fun d b hd hn => by
               by_cases e : d = ii
               ·subst e
                rw [HNX.out] at hn
                injection hn with hn; subst hn; exact HL.out
               ·exact HNO.out d b (by omega) hn), (by rw [HPK.out, show 4 - ii = (4 - (ii + 1)) + 1 by have := HI4.out; omega, Cheap.pick_no (fun b hn => by rw [HNX.out] at hn; injection hn with hn; subst hn; exact HL.out)]), blk_drewN BG.out.1 _, blk_drewN BN.out.1 _, pw_below_drewN HB.out _⟩
              case measure =>
               have := HI4.out
               simp [intOf]
               omega
            ·have e1_ : (c5 == cn_ - v.d.t) = false := by simpa using he1
             have HL := hid (fun h_ => he1 (by have := HIFF.out.2 h_; injection this))
             go_wp2_with fail
             go_quiet (fail)
             go_wp2_with fail
             go_roundw
             case rel => exact ⟨ii + 1, rfl, by go_num, HI4.out, (fun d b hd hn => by
              by_cases e : d = ii
              ·subst e
               rw [HNX.out] at hn
               injection hn with hn; subst hn; exact HL.out
              ·exact HNO.out d b (by omega) hn), (by rw [HPK.out, show 4 - ii = (4 - (ii + 1)) + 1 by have := HI4.out; omega, Cheap.pick_no (fun b hn => by rw [HNX.out] at hn; injection hn with hn; subst hn; exact HL.out)]), blk_drewN BG.out.1 _, blk_drewN BN.out.1 _, pw_below_drewN HB.out _⟩
             case measure =>
              have := HI4.out
              simp [intOf]
              omega
         ·exfalso
          obtain rfl : ii = 4 := by omega
          obtain ⟨d, b, h1, h2, h3⟩ := Cheap.prog_goes HG.out HIF.out.1 HIF.out.2 HA.out (by rw [← HGN.out]; exact HDN.out) (by rw [← HGN.out]; exact HR0.out)
          have hbk := HG.out.lt aa d b HA.out h1 h2
          refine HNO.out d b h1 h2 ?_
          have h_ := (Cheap.prog_iff HG.out HIF.out.1 HIF.out.2 HA.out hbk (by rw [← HGN.out]; exact HDN.out)).1 h3
          rw [← HGN.out] at h_
          rw [show (f : Int) = rn_ - 1 by have := HF.out; omega]
          exact h_
      ·have hrd : decide (rn_ > 0) = false := decide_eq_false hr0
       have hw0 : rn_.toNat = 0 := by omega
       have hfin : Ending.returned (.tuple #[.string acc, .int .i64 c9, .bool true]) = Ending.returned (.tuple #[.string res.1, .int .i64 res.2.1, .bool res.2.2]) := by
        rw [← hacc]
        simp only
        rw [hw0, Cheap.way_nil, HFIN2.out, show acc ++ (⟨#[]⟩ : ByteArray) = acc from ByteArray.append_empty]
       have hn0 : (0 : Int) < (kk : Int) := by omega
       obtain ⟨⟨p0_, p1_⟩, _, _⟩ := pr_cells (Kd.R_below HR.out HB.out) 0 _ (row_at g HG.out.pos)
       rw [Nat.zero_mul, ← HG0.out] at p0_
       simp only at p0_
       clear hx haa hgn hdr hgk hacc hsz hbg hB hr0 hw0
       go_wp2_with fail
       go_quiet (fail)
       go_wp2_with fail
       go_quiet (fail)
       go_wp2_with fail
       go_ret3
       exact ⟨hfin, below_then HB0.out HB0.out.size (by repeat (first | exact HB.out | apply pw_below_drewN))⟩
  ·have hfin : Ending.returned (.tuple #[.string ⟨#[]⟩, .int .i64 0, .bool false]) = Ending.returned (.tuple #[.string res.1, .int .i64 res.2.1, .bool res.2.2]) := by
    rw [HFIN.out]
    unfold cheap
    rw [Cheap.prog_none HG.out HIF.out.1 HIF.out.2 HG.out.pos hdr]
   have hnd : 1099511627776 ≤ (g 0).1 := by unfold Price.dear at hdr; omega
   obtain ⟨g0, hg0⟩ : ∃ g0, g0 = g 0 := ⟨_, rfl⟩
   rw [← hg0] at p0_ p1_ hnd
   clear hdr hg0
   go_wp2_with fail
   go_ret3
   exact ⟨hfin, HB0.out⟩
end Go.Proofs.YtkoejpimalbhbaaDoor.CheapI
