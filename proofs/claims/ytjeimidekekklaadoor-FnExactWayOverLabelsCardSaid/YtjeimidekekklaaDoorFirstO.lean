/- The program's WayOverLabels, walked. Conditions: a text of no more than 2^20 bytes. -/
import Derived.Test.YtjeimidekekklaaDoorCountL
import Derived.Test.YtjeimidekekklaaDoorWordRO
namespace Go.Proofs.YtjeimidekekklaaDoor.FirstO
set_option maxHeartbeats 4000000
set_option maxRecDepth 100000
open Go.Lib (hid)
open Go.RowKit Go.Proofs.YtjeimidekekklaaDoorW.PrintWords Go.Proofs.YtjeimidekekklaaDoorW.PrintLast Go.Proofs.YtjeimidekekklaaDoor.QBo Go.Proofs.YtjeimidekekklaaDoor.Board Go.Proofs.YtjeimidekekklaaDoor.BaseM Go.Proofs.YtjeimidekekklaaDoor.ReachR Go.Proofs.YtjeimidekekklaaDoor.SearchG Go.Proofs.YtjeimidekekklaaDoor.CountL Go.Proofs.YtjeimidekekklaaDoor.QBi
open Go.Proofs.YtjeimidekekklaaDoor.Reach (St)
open Go.Proofs.YtjeimidekekklaaDoor.WordR (wordS word_walk)
set_option linter.unusedVariables false
set_option linter.unusedSimpArgs false

def firstI (P : St → Bool) : Nat → List St → Int
 | _, [] => -1
 | j, t :: l => if P t = true then (j : Int) else firstI P (j + 1) l
theorem first_drop {P : St → Bool} {l : List St} {i : Nat} (hi : i < l.length) (hp : P l[i] = false) : firstI P i (l.drop i) = firstI P (i + 1) (l.drop (i + 1)) := by
 rw [List.drop_eq_getElem_cons hi, firstI, if_neg (by rw [hp]; decide)]
theorem first_hit {P : St → Bool} {l : List St} {i : Nat} (hi : i < l.length) (hp : P l[i] = true) : firstI P i (l.drop i) = (i : Int) := by
 rw [List.drop_eq_getElem_cons hi, firstI, if_pos hp]
theorem first_get {P : St → Bool} : ∀ {l : List St} {j : Nat}, 0 ≤ firstI P j l → ∃ k, firstI P j l = ((j + k : Nat) : Int) ∧ k < l.length
 | [], j, h => by simp [firstI] at h
 | t :: l, j, h => by
  unfold firstI at h ⊢
  by_cases hp : P t = true
  ·rw [if_pos hp]
   exact ⟨0, rfl, by simp⟩
  ·rw [if_neg hp] at h ⊢
   obtain ⟨k, h1, h2⟩ := first_get h
   exact ⟨k + 1, by rw [h1]; omega, by simpa using h2⟩
theorem first_neg {P : St → Bool} : ∀ {l : List St} {j : Nat}, ¬ 0 ≤ firstI P j l → firstI P j l = -1
 | [], j, h => rfl
 | t :: l, j, h => by
  unfold firstI at h ⊢
  by_cases hp : P t = true
  ·rw [if_pos hp] at h
   omega
  ·rw [if_neg hp] at h ⊢
   exact first_neg h
abbrev test (x y : Int) (t : St) : Bool := (t.x == x && t.y == y)
theorem isAt_walk (t : St) (x y : Int) (w : World) : Calls Tryd.prog 22 #[.agg (st8 t), .int .i64 x, .int .i64 y] w fun e w' => e = .returned (.bool (t.x == x && t.y == y)) ∧ Below w.heap.size w w' := by
 by_cases h : t.x = x
 ·have e1 : (t.x == x) = true := by simpa using h
  have d1 : decide (t.x = x) = true := decide_eq_true h
  rw [e1, Bool.true_and]
  go_enter Tryd.func22, Tryd.ntmps22
  go_wp2_with fail
  go_ret
  refine ⟨?_, (Below.refl _ w).alloc (Nat.le_refl _) _⟩
  first | rfl | (simp; done) | (simp [h]; done)
 ·have e1 : (t.x == x) = false := by simpa using h
  have d1 : decide (t.x = x) = false := decide_eq_false h
  rw [e1, Bool.false_and]
  go_enter Tryd.func22, Tryd.ntmps22
  go_wp2_with fail
  go_ret
  refine ⟨?_, (Below.refl _ w).alloc (Nat.le_refl _) _⟩
  first | rfl | (simp; done) | (simp [h]; done)
theorem test_walk (t : St) (x y : Int) (X Y : Nat) (W : World) (hX : W.heap[X]? = some (.cells #[.int .i64 x] 3 (0, 0))) (hY : W.heap[Y]? = some (.cells #[.int .i64 y] 3 (0, 0))) :
  Calls Tryd.prog 21 #[.agg (st8 t), .pointer (some ⟨X, 0, none⟩), .pointer (some ⟨Y, 0, none⟩)] W fun e w' => e = .returned (.bool (test x y t)) ∧ Below W.heap.size W w' := by
 have HI := hid (fun W => isAt_walk t x y W)
 have n0 : (W.alloc (.cells (st8 t) 30)).cell? ⟨X, 0, none⟩ = some (.int .i64 x) := blk_cell (blk_alloc hX _) 0
 have n1 : (W.alloc (.cells (st8 t) 30)).cell? ⟨Y, 0, none⟩ = some (.int .i64 y) := blk_cell (blk_alloc hY _) 0
 clear hX hY
 go_enter Tryd.func21, Tryd.ntmps21
 go_wp2_with fail
 refine (HI.out _).mono ?_
 rintro e' w1 ⟨rfl, hb⟩
 have HB := hid (below_then ((Below.refl _ W).alloc (Nat.le_refl _) (.cells (st8 t) 30)) (by simp) hb)
 clear hb n0 n1
 go_wp2_with fail
 go_ret
 exact ⟨rfl, HB.out⟩
abbrev IXF := 37
theorem index_walk (x y : Int) (X Y : Nat) (w0 w : World) (b c : Nat) (Ls : List St) (hr : Kd.R kSt 30 w w0.heap.size (fun _ => True) (.slice (some ⟨b, 0, none⟩) Ls.length c) (Ls.map sSt)) (hl : Ls.length ≤ 1000)
  (hX : w.heap[X]? = some (.cells #[.int .i64 x] 3 (0, 0))) (hY : w.heap[Y]? = some (.cells #[.int .i64 y] 3 (0, 0))) :
  Calls Tryd.prog 37 #[.slice (some ⟨b, 0, none⟩) Ls.length c, .func (.func 21) #[] #[.pointer (some ⟨X, 0, none⟩), .pointer (some ⟨Y, 0, none⟩)]] w fun e w' => e = .returned (.int .i64 (firstI (test x y) 0 Ls)) ∧ Below w.heap.size w w' := by
 have HT := hid (fun t W (hb : Below w.heap.size w W) => test_walk t x y X Y W (blk_below hX hb) (blk_below hY hb))
 have HR := hid hr
 have HL := hid hl
 clear hr hl hX hY
 go_enter Tryd.func37, Tryd.ntmps37
 go_wp2_with fail
 go_loopw [5, 8] (fun v5 v8 wr => ∃ i : Nat, v8 = .int .i64 (i : Int) ∧ i ≤ Ls.length ∧ firstI (test x y) 0 Ls = firstI (test x y) i (Ls.drop i) ∧ Below w.heap.size w wr) (fun _ v8 _ => Ls.length - (intOf v8).toNat)
 case atStart => exact ⟨0, rfl, Nat.zero_le _, by rw [List.drop_zero], Below.refl _ _⟩
 case round =>
  obtain ⟨i, rfl, hi, hf, hB⟩ := hrel
  have HB := hid hB
  have HF := hid hf
  clear hB hf
  by_cases hlt : i < Ls.length
  ·obtain ⟨t, ht⟩ : ∃ t, t = Ls[i] := ⟨_, rfl⟩
   have hx : (Ls.map sSt)[i]? = some (sSt t) := by rw [List.getElem?_map, List.getElem?_eq_getElem hlt, ← ht, Option.map_some]
   obtain ⟨c0, c1, c2, c3, c4, c5, c6, c7⟩ := st_cells (Kd.R_below HR.out HB.out) i t hx
   have HTt := hid (HT.out t wr HB.out)
   obtain ⟨q, hq⟩ : ∃ q, q = test x y t := ⟨_, rfl⟩
   rw [← hq] at HTt
   have HQ := hid (show test x y Ls[i] = q by rw [hq, ht])
   have HLT := hid hlt
   have hi0 : (0 : Int) ≤ (i : Int) := by omega
   have hi1 : (i : Int) < (Ls.length : Int) := by omega
   clear ht hx hq
   go_wp2_with fail
   refine HTt.out.mono ?_
   rintro e' w1 ⟨rfl, hb⟩
   have HB1 := hid (below_then HB.out HB.out.size hb)
   clear hb c0 c1 c2 c3 c4 c5 c6 c7 HTt
   cases q with
   | true =>
    have hfin := first_hit (P := test x y) HLT.out HQ.out
    rw [← HF.out] at hfin
    have HFIN := hid hfin
    clear hfin
    go_wp2_with fail
    go_ret
    exact ⟨by rw [HFIN.out]; rfl, HB1.out⟩
   | false =>
    have hfin := first_drop (P := test x y) HLT.out HQ.out
    rw [← HF.out] at hfin
    have HFIN := hid hfin
    have hls := HL.out
    clear hfin
    go_wp2_with fail
    go_roundw
    case rel => exact ⟨i + 1, by go_num, by have := HLT.out; omega, HFIN.out, HB1.out⟩
    case measure =>
     have := HLT.out
     simp [intOf]
     omega
  ·obtain rfl : i = Ls.length := by omega
   have hge : ¬ ((Ls.length : Int) < (Ls.length : Int)) := by omega
   have hfin := HF.out
   rw [List.drop_length, firstI] at hfin
   have HFIN := hid hfin
   clear hfin hlt
   go_wp2_with fail
   go_ret
   exact ⟨by rw [HFIN.out]; rfl, HB.out⟩
def wordI (L : Bfs.Nodes St) (j : Int) : List Nat := (L.getD j.toNat (⟨0, 0, ⟨0, 0, 0, 0, 0, 0⟩⟩, [])).2
def toS (L : Bfs.Nodes St) (j : Int) : ByteArray := if 0 ≤ j then wordS (wordI L j) else ⟨#[]⟩
def toB (L : Bfs.Nodes St) (j : Int) : Bool := decide (0 ≤ j) && decide ((wordI L j).length ≤ 60)
theorem wordTo_walk (x y : Int) (X Y : Nat) {mv : St → Nat → Option St} {s0 : St} (w0 w : World) (B M : Nat) (L : Bfs.Nodes St) (v0 v1 v2 v3 : Value) (h : RS w0 w B M L v0 v1 v2 v3) (hd : Bfs.Done mv s0 L) (hl : L.length ≤ 1000)
  (hX : w.heap[X]? = some (.cells #[.int .i64 x] 3 (0, 0))) (hY : w.heap[Y]? = some (.cells #[.int .i64 y] 3 (0, 0))) :
  Calls Tryd.prog 20 #[.pointer (some ⟨B, 0, none⟩), .func (.func 21) #[] #[.pointer (some ⟨X, 0, none⟩), .pointer (some ⟨Y, 0, none⟩)]] w fun e w' => e = .returned (.tuple #[.string (toS L (firstI (test x y) 0 (L.map (·.1)))), .bool (toB L (firstI (test x y) 0 (L.map (·.1))))]) ∧ Below w.heap.size w w' := by
 have hpos := (List.getElem?_eq_some_iff.1 hd.root).1
 obtain ⟨b, c, hv, _, _⟩ := R_form h.r0 (by rw [List.length_map]; exact hpos)
 have hr := h.r0
 rw [hv] at hr
 have e1 : (L.map fun x => sSt x.1) = (L.map (·.1)).map sSt := by rw [List.map_map]; rfl
 have e2 : (L.map fun x => sSt x.1).length = (L.map (·.1)).length := by rw [List.length_map, List.length_map]
 rw [e2] at hr hv
 rw [e1] at hr
 obtain ⟨Ls, hLs⟩ : ∃ Ls, Ls = L.map (·.1) := ⟨_, rfl⟩
 have hLl : Ls.length = L.length := by rw [hLs, List.length_map]
 rw [← hLs] at hr hv ⊢
 have HI := hid (index_walk x y X Y w0 w b c Ls hr (by rw [hLl]; exact hl) hX hY)
 have c0 : w.cell? ⟨B, 0, none⟩ = some v0 := blk_cell h.blk 0
 rw [hv] at c0
 have HRS := hid h
 have HD := hid hd
 have HL := hid hl
 unfold toS toB
 obtain ⟨j, hj⟩ : ∃ j, j = firstI (test x y) 0 Ls := ⟨_, rfl⟩
 rw [← hj] at HI ⊢
 by_cases hn : 0 ≤ j
 ·obtain ⟨k, hk1, hk2⟩ := first_get (P := test x y) (l := Ls) (j := 0) (by rw [← hj]; exact hn)
  rw [Nat.zero_add, ← hj] at hk1
  rw [hLl] at hk2
  rw [if_pos hn, decide_eq_true hn, Bool.true_and, hk1]
  rw [hk1] at HI
  obtain ⟨⟨u, wd⟩, hx⟩ : ∃ x, L[k]? = some x := ⟨_, List.getElem?_eq_getElem hk2⟩
  have hwd : wordI L (k : Int) = wd := by
   unfold wordI
   rw [Int.toNat_natCast, List.getD_eq_getElem?_getD, hx]
   rfl
  rw [hwd]
  have HX := hid hx
  have hk0 : (0 : Int) ≤ (k : Int) := by omega
  have hk0' : ¬ (k : Int) < 0 := by omega
  clear hpos hv hr e1 e2 hLs hLl h hd hl hX hY hj hn hk1 hk2 hx hwd
  go_enter Tryd.func20, Tryd.ntmps20
  go_wp2_with fail
  refine HI.out.mono ?_
  rintro e' w1 ⟨rfl, hb⟩
  have HW := hid (word_walk w0 w1 B M L v0 v1 v2 v3 (RS.below HRS.out hb) HD.out HL.out k u wd HX.out)
  have HB := hid hb
  clear hb c0 HI HRS
  go_wp2_with fail
  refine HW.out.mono ?_
  rintro e' w2 ⟨rfl, hb⟩
  have HB2 := hid (below_then HB.out HB.out.size hb)
  clear hb HW HB
  go_wp2_with fail
  go_ret2
  exact ⟨rfl, HB2.out⟩
 ·have hm := first_neg (P := test x y) (l := Ls) (j := 0) (by rw [← hj]; exact hn)
  rw [← hj] at hm
  rw [if_neg hn, decide_eq_false hn, Bool.false_and]
  rw [hm] at HI
  clear hpos hv hr e1 e2 hLs hLl h hd hl hX hY hj hn hm
  go_enter Tryd.func20, Tryd.ntmps20
  go_wp2_with fail
  refine HI.out.mono ?_
  rintro e' w1 ⟨rfl, hb⟩
  have HB := hid hb
  clear hb c0 HI HRS
  go_wp2_with fail
  go_ret2
  exact ⟨rfl, HB.out⟩
def okF (s : ByteArray) (t : St) (x y : Int) : Bool := askL s t && (hasB s.data.toList x y && mB s.data.toList t)
def atF (s : ByteArray) (t : St) (x y : Int) : Int := firstI (test x y) 0 ((found (canL s.data.toList) t).map (·.1))
def wayS (s : ByteArray) (t : St) (x y : Int) : ByteArray := if okF s t x y = true then toS (found (canL s.data.toList) t) (atF s t x y) else ⟨#[]⟩
def wayB (s : ByteArray) (t : St) (x y : Int) : Bool := okF s t x y && toB (found (canL s.data.toList) t) (atF s t x y)
theorem way_walk (s : ByteArray) (hs : s.size ≤ 1048576) (t : St) (x y : Int) (w : World) :
  Calls Tryd.prog 9 #[.string s, .agg (st8 t), .int .i64 x, .int .i64 y] w fun e w' => e = .returned (.tuple #[.string (wayS s t x y), .bool (wayB s t x y)]) ∧ Below w.heap.size w w' := by
 obtain ⟨S, hS⟩ : ∃ S, S = wayS s t x y := ⟨_, rfl⟩
 obtain ⟨T, hT⟩ : ∃ T, T = wayB s t x y := ⟨_, rfl⟩
 rw [← hS, ← hT]
 obtain ⟨g, h1, h2⟩ := onLabels_at s hs t.x t.y t.d.t t.d.n t.d.e t.d.s t.d.w t.d.b (s.size + 3) (by omega)
 have hno : okF s t x y = false → Ending.returned (.tuple #[.string ⟨#[]⟩, .bool false]) = Ending.returned (.tuple #[.string S, .bool T]) := fun hf => by
  rw [hS, hT]
  unfold wayS wayB
  rw [hf]
  simp
 have hyes : okF s t x y = true → Ending.returned (.tuple #[.string (toS (found (canL s.data.toList) t) (atF s t x y)), .bool (toB (found (canL s.data.toList) t) (atF s t x y))]) = Ending.returned (.tuple #[.string S, .bool T]) := fun hf => by
  rw [hS, hT]
  unfold wayS wayB
  rw [hf]
  simp
 unfold okF at hno hyes
 cases ha : askL s t with
 | false =>
  have HF := hid (hno (by rw [ha]; rfl))
  have ha' : askB s t.x t.y t.d.t t.d.n t.d.e t.d.s t.d.w t.d.b = false := ha
  rw [ha'] at h1
  have HC := hid (fun W => impl_onLabels.calls _ _ _ _ _ _ _ _ _ _ _ _ W h1)
  clear ha ha' h1 h2 hno hyes hS hT
  go_enter Tryd.func9, Tryd.ntmps9
  go_wp2_with fail
  refine (HC.out _).mono ?_
  rintro e' w1 ⟨v0, rfl, hr, hb⟩
  have HB := hid (below_then ((((Below.refl _ w).alloc (Nat.le_refl _) (.cells (st8 t) 30)).alloc (by simp) (.cells #[.int .i64 x] 3)).alloc (by simp; omega) (.cells #[.int .i64 y] 3)) (by simp; omega) hb)
  clear hr hb
  go_wp2_with fail
  go_ret2
  exact ⟨HF.out, HB.out⟩
 | true =>
  have ha' : askB s t.x t.y t.d.t t.d.n t.d.e t.d.s t.d.w t.d.b = true := ha
  obtain rfl := h2 ha'
  rw [ha'] at h1
  obtain ⟨hi, _, _⟩ := ask_parts ha'
  have HC := hid (fun W => impl_onLabels.calls _ _ _ _ _ _ _ _ _ _ _ _ W h1)
  have HP := hid (grid_pos s hi)
  have hmt := matches_eq s hi t.x t.y t.d.t t.d.n t.d.e t.d.s t.d.w t.d.b
  have HM := hid (fun A0 c0 W hr hc => QBo.impl_grid_matches.calls A0 c0 (gridOf s) _ _ _ _ _ _ _ _ _ W hr hc hmt)
  have HH := hid (fun A0 c0 W hr hc => impl_grid_has.calls A0 c0 (gridOf s) x y _ W hr hc (has_eq s hi x y))
  rw [ha, Bool.true_and] at hno hyes
  cases hq : hasB s.data.toList x y with
  | false =>
   have HF := hid (hno (by rw [hq]; rfl))
   rw [hq] at HH
   clear ha ha' h1 h2 hi hmt HM hno hyes hS hT hq
   obtain ⟨gr, hgr⟩ : ∃ gr, gr = gridOf s := ⟨_, rfl⟩
   rw [← hgr] at HC HP HH
   clear hgr
   go_enter Tryd.func9, Tryd.ntmps9
   go_wp2_with fail
   refine (HC.out _).mono ?_
   rintro e' w1 ⟨v0, rfl, hr, hb⟩
   have HB := hid (below_then ((((Below.refl _ w).alloc (Nat.le_refl _) (.cells (st8 t) 30)).alloc (by simp) (.cells #[.int .i64 x] 3)).alloc (by simp; omega) (.cells #[.int .i64 y] 3)) (by simp; omega) hb)
   have hX : w1.heap[w.heap.size + 1]? = some (.cells #[.int .i64 x] 3 (0, 0)) := by
    have := blk_below (blk_alloc (blk_new (w.alloc (.cells (st8 t) 30)) (.cells #[.int .i64 x] 3)) (.cells #[.int .i64 y] 3)) hb
    simpa using this
   have hY : w1.heap[w.heap.size + 1 + 1]? = some (.cells #[.int .i64 y] 3 (0, 0)) := by
    have := blk_below (blk_new ((w.alloc (.cells (st8 t) 30)).alloc (.cells #[.int .i64 x] 3)) (.cells #[.int .i64 y] 3)) hb
    simpa using this
   obtain ⟨b, c, hv, _, _⟩ := R_form hr HP.out
   subst hv
   have HRD := hid (Kd.R_reads' hr).2
   have cx : w1.cell? ⟨w.heap.size + 1, 0, none⟩ = some (.int .i64 x) := blk_cell hX 0
   have cy : w1.cell? ⟨w.heap.size + 1 + 1, 0, none⟩ = some (.int .i64 y) := blk_cell hY 0
   clear hr hb hX hY
   go_wp2_with fail
   refine (HH.out _ _ w1 HRD.out.2 HRD.out.1).mono ?_
   rintro e' w2 ⟨rfl, hd⟩
   have HB2 := hid (below_then HB.out HB.out.size hd.below)
   clear hd HB cx cy
   go_wp2_with fail
   go_ret2
   exact ⟨HF.out, HB2.out⟩
  | true =>
   rw [hq] at HH
   rw [hq, Bool.true_and] at hno hyes
   cases hm : mB s.data.toList t with
   | false =>
    have HF := hid (hno hm)
    have hm' : matchB s.data.toList t.x t.y t.d.t = false := hm
    rw [hm'] at HM
    clear ha ha' h1 h2 hi hmt hno hyes hS hT hq hm hm'
    obtain ⟨gr, hgr⟩ : ∃ gr, gr = gridOf s := ⟨_, rfl⟩
    rw [← hgr] at HC HP HH HM
    clear hgr
    go_enter Tryd.func9, Tryd.ntmps9
    go_wp2_with fail
    refine (HC.out _).mono ?_
    rintro e' w1 ⟨v0, rfl, hr, hb⟩
    have HB := hid (below_then ((((Below.refl _ w).alloc (Nat.le_refl _) (.cells (st8 t) 30)).alloc (by simp) (.cells #[.int .i64 x] 3)).alloc (by simp; omega) (.cells #[.int .i64 y] 3)) (by simp; omega) hb)
    have BT := hid (blk_below (blk_alloc (blk_alloc (blk_new w (.cells (st8 t) 30)) (.cells #[.int .i64 x] 3)) (.cells #[.int .i64 y] 3)) hb)
    have hX : w1.heap[w.heap.size + 1]? = some (.cells #[.int .i64 x] 3 (0, 0)) := by
     have := blk_below (blk_alloc (blk_new (w.alloc (.cells (st8 t) 30)) (.cells #[.int .i64 x] 3)) (.cells #[.int .i64 y] 3)) hb
     simpa using this
    have hY : w1.heap[w.heap.size + 1 + 1]? = some (.cells #[.int .i64 y] 3 (0, 0)) := by
     have := blk_below (blk_new ((w.alloc (.cells (st8 t) 30)).alloc (.cells #[.int .i64 x] 3)) (.cells #[.int .i64 y] 3)) hb
     simpa using this
    obtain ⟨b, c, hv, _, _⟩ := R_form hr HP.out
    subst hv
    have HRD := hid (Kd.R_reads' hr).2
    have cx : w1.cell? ⟨w.heap.size + 1, 0, none⟩ = some (.int .i64 x) := blk_cell hX 0
    have cy : w1.cell? ⟨w.heap.size + 1 + 1, 0, none⟩ = some (.int .i64 y) := blk_cell hY 0
    have HX := hid (And.intro hX hY)
    clear hr hb hX hY
    go_wp2_with fail
    refine (HH.out _ _ w1 HRD.out.2 HRD.out.1).mono ?_
    rintro e' w2 ⟨rfl, hd⟩
    have hb := hd.below
    have HB2 := hid (below_then HB.out HB.out.size hb)
    have BT2 := hid (blk_below BT.out hb)
    have HX2 := hid (And.intro (blk_below HX.out.1 hb) (blk_below HX.out.2 hb))
    have HC2 := hid (Kd.C_below HRD.out.2 hb)
    clear hd hb HB BT HX cx cy HH
    have c0 : w2.cell? ⟨w.heap.size, 0, none⟩ = some (.int .i64 t.x) := blk_cell BT2.out 0
    have c1 : w2.cell? ⟨w.heap.size, 1, none⟩ = some (.int .i64 t.y) := blk_cell BT2.out 1
    have c2 : w2.cell? ⟨w.heap.size, 2, none⟩ = some (.int .i64 t.d.t) := blk_cell BT2.out 2
    have c3 : w2.cell? ⟨w.heap.size, 3, none⟩ = some (.int .i64 t.d.n) := blk_cell BT2.out 3
    have c4 : w2.cell? ⟨w.heap.size, 4, none⟩ = some (.int .i64 t.d.e) := blk_cell BT2.out 4
    have c5 : w2.cell? ⟨w.heap.size, 5, none⟩ = some (.int .i64 t.d.s) := blk_cell BT2.out 5
    have c6 : w2.cell? ⟨w.heap.size, 6, none⟩ = some (.int .i64 t.d.w) := blk_cell BT2.out 6
    have c7 : w2.cell? ⟨w.heap.size, 7, none⟩ = some (.int .i64 t.d.b) := blk_cell BT2.out 7
    go_wp2_with fail
    refine (HM.out _ _ w2 HC2.out HRD.out.1).mono ?_
    rintro e' w3 ⟨rfl, hb⟩
    have HB3 := hid (below_then HB2.out HB2.out.size hb)
    have BT3 := hid (blk_below BT2.out hb)
    have HX3 := hid (And.intro (blk_below HX2.out.1 hb) (blk_below HX2.out.2 hb))
    have HC3 := hid (Kd.C_below HC2.out hb)
    clear hb HB2 BT2 HX2 HC2 HM c0 c1 c2 c3 c4 c5 c6 c7
    have d0 : w3.cell? ⟨w.heap.size, 0, none⟩ = some (.int .i64 t.x) := blk_cell BT3.out 0
    have d1 : w3.cell? ⟨w.heap.size, 1, none⟩ = some (.int .i64 t.y) := blk_cell BT3.out 1
    have d2 : w3.cell? ⟨w.heap.size, 2, none⟩ = some (.int .i64 t.d.t) := blk_cell BT3.out 2
    have d3 : w3.cell? ⟨w.heap.size, 3, none⟩ = some (.int .i64 t.d.n) := blk_cell BT3.out 3
    have d4 : w3.cell? ⟨w.heap.size, 4, none⟩ = some (.int .i64 t.d.e) := blk_cell BT3.out 4
    have d5 : w3.cell? ⟨w.heap.size, 5, none⟩ = some (.int .i64 t.d.s) := blk_cell BT3.out 5
    have d6 : w3.cell? ⟨w.heap.size, 6, none⟩ = some (.int .i64 t.d.w) := blk_cell BT3.out 6
    have d7 : w3.cell? ⟨w.heap.size, 7, none⟩ = some (.int .i64 t.d.b) := blk_cell BT3.out 7
    go_wp2_with fail
    go_ret2
    exact ⟨HF.out, HB3.out⟩
   | true =>
    have HF := hid (hyes hm)
    have hm' : matchB s.data.toList t.x t.y t.d.t = true := hm
    obtain ⟨_, hgd⟩ := ask_gd ha hm
    have HR := hid (fun A0 c0 W => reached_calls s hi t hgd A0 c0 W)
    have HDN := hid (And.intro (found_done (rules hi) hgd) (Nat.le_trans (found_length (rules hi) hgd) (show 864 ≤ 1000 by decide)))
    unfold atF at HF
    rw [hm'] at HM
    clear ha ha' h1 h2 hi hmt hno hyes hS hT hq hm hm' hgd
    obtain ⟨gr, hgr⟩ : ∃ gr, gr = gridOf s := ⟨_, rfl⟩
    obtain ⟨L, hL⟩ : ∃ L, L = found (canL s.data.toList) t := ⟨_, rfl⟩
    rw [← hgr] at HC HP HH HM HR
    rw [← hL] at HR HF HDN
    clear hgr hL
    go_enter Tryd.func9, Tryd.ntmps9
    go_wp2_with fail
    refine (HC.out _).mono ?_
    rintro e' w1 ⟨v0, rfl, hr, hb⟩
    have HB := hid (below_then ((((Below.refl _ w).alloc (Nat.le_refl _) (.cells (st8 t) 30)).alloc (by simp) (.cells #[.int .i64 x] 3)).alloc (by simp; omega) (.cells #[.int .i64 y] 3)) (by simp; omega) hb)
    have BT := hid (blk_below (blk_alloc (blk_alloc (blk_new w (.cells (st8 t) 30)) (.cells #[.int .i64 x] 3)) (.cells #[.int .i64 y] 3)) hb)
    have hX : w1.heap[w.heap.size + 1]? = some (.cells #[.int .i64 x] 3 (0, 0)) := by
     have := blk_below (blk_alloc (blk_new (w.alloc (.cells (st8 t) 30)) (.cells #[.int .i64 x] 3)) (.cells #[.int .i64 y] 3)) hb
     simpa using this
    have hY : w1.heap[w.heap.size + 1 + 1]? = some (.cells #[.int .i64 y] 3 (0, 0)) := by
     have := blk_below (blk_new ((w.alloc (.cells (st8 t) 30)).alloc (.cells #[.int .i64 x] 3)) (.cells #[.int .i64 y] 3)) hb
     simpa using this
    obtain ⟨b, c, hv, _, _⟩ := R_form hr HP.out
    subst hv
    have HRD := hid (Kd.R_reads' hr).2
    have cx : w1.cell? ⟨w.heap.size + 1, 0, none⟩ = some (.int .i64 x) := blk_cell hX 0
    have cy : w1.cell? ⟨w.heap.size + 1 + 1, 0, none⟩ = some (.int .i64 y) := blk_cell hY 0
    have HX := hid (And.intro hX hY)
    clear hr hb hX hY
    go_wp2_with fail
    refine (HH.out _ _ w1 HRD.out.2 HRD.out.1).mono ?_
    rintro e' w2 ⟨rfl, hd⟩
    have hb := hd.below
    have HB2 := hid (below_then HB.out HB.out.size hb)
    have BT2 := hid (blk_below BT.out hb)
    have HX2 := hid (And.intro (blk_below HX.out.1 hb) (blk_below HX.out.2 hb))
    have HC2 := hid (Kd.C_below HRD.out.2 hb)
    clear hd hb HB BT HX cx cy HH
    have c0 : w2.cell? ⟨w.heap.size, 0, none⟩ = some (.int .i64 t.x) := blk_cell BT2.out 0
    have c1 : w2.cell? ⟨w.heap.size, 1, none⟩ = some (.int .i64 t.y) := blk_cell BT2.out 1
    have c2 : w2.cell? ⟨w.heap.size, 2, none⟩ = some (.int .i64 t.d.t) := blk_cell BT2.out 2
    have c3 : w2.cell? ⟨w.heap.size, 3, none⟩ = some (.int .i64 t.d.n) := blk_cell BT2.out 3
    have c4 : w2.cell? ⟨w.heap.size, 4, none⟩ = some (.int .i64 t.d.e) := blk_cell BT2.out 4
    have c5 : w2.cell? ⟨w.heap.size, 5, none⟩ = some (.int .i64 t.d.s) := blk_cell BT2.out 5
    have c6 : w2.cell? ⟨w.heap.size, 6, none⟩ = some (.int .i64 t.d.w) := blk_cell BT2.out 6
    have c7 : w2.cell? ⟨w.heap.size, 7, none⟩ = some (.int .i64 t.d.b) := blk_cell BT2.out 7
    go_wp2_with fail
    refine (HM.out _ _ w2 HC2.out HRD.out.1).mono ?_
    rintro e' w3 ⟨rfl, hb⟩
    have HB3 := hid (below_then HB2.out HB2.out.size hb)
    have BT3 := hid (blk_below BT2.out hb)
    have HX3 := hid (And.intro (blk_below HX2.out.1 hb) (blk_below HX2.out.2 hb))
    have HC3 := hid (Kd.C_below HC2.out hb)
    clear hb HB2 BT2 HX2 HC2 HM c0 c1 c2 c3 c4 c5 c6 c7
    have d0 : w3.cell? ⟨w.heap.size, 0, none⟩ = some (.int .i64 t.x) := blk_cell BT3.out 0
    have d1 : w3.cell? ⟨w.heap.size, 1, none⟩ = some (.int .i64 t.y) := blk_cell BT3.out 1
    have d2 : w3.cell? ⟨w.heap.size, 2, none⟩ = some (.int .i64 t.d.t) := blk_cell BT3.out 2
    have d3 : w3.cell? ⟨w.heap.size, 3, none⟩ = some (.int .i64 t.d.n) := blk_cell BT3.out 3
    have d4 : w3.cell? ⟨w.heap.size, 4, none⟩ = some (.int .i64 t.d.e) := blk_cell BT3.out 4
    have d5 : w3.cell? ⟨w.heap.size, 5, none⟩ = some (.int .i64 t.d.s) := blk_cell BT3.out 5
    have d6 : w3.cell? ⟨w.heap.size, 6, none⟩ = some (.int .i64 t.d.w) := blk_cell BT3.out 6
    have d7 : w3.cell? ⟨w.heap.size, 7, none⟩ = some (.int .i64 t.d.b) := blk_cell BT3.out 7
    go_wp2_with fail
    refine (HR.out _ _ w3 HC3.out HRD.out.1).mono ?_
    rintro e' w4 ⟨B, M, v0, v1, v2, v3, rfl, hrs⟩
    have hrs' := RS_lower hrs HB3.out
    have hX4 := blk_below HX3.out.1 hrs.bel
    have hY4 := blk_below HX3.out.2 hrs.bel
    have HW := hid (wordTo_walk x y (w.heap.size + 1) (w.heap.size + 1 + 1) w w4 B M L v0 v1 v2 v3 hrs' HDN.out.1 HDN.out.2 hX4 hY4)
    have HB4 := hid hrs'.bel
    clear hrs hrs' hX4 hY4 HB3 HX3 HR HDN HRD HC3
    go_wp2_with fail
    refine HW.out.mono ?_
    rintro e' w5 ⟨rfl, hb⟩
    have HB5 := hid (below_then HB4.out HB4.out.size hb)
    clear hb HW HB4
    go_wp2_with fail
    go_ret2
    exact ⟨HF.out, HB5.out⟩
end Go.Proofs.YtjeimidekekklaaDoor.FirstO
