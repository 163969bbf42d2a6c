/- The program's WayToTop, walked. Conditions: a text of no more than 2^20 bytes. -/
import Derived.Test.YthfeiklaoljdnaaDoorOn
import Derived.Test.YthfeiklaoljdnaaDoorWordR
namespace Go.Proofs.YthfeiklaoljdnaaDoor.FirstT
open Go.RowKit Go.Proofs.YthfeiklaoljdnaaDoorW.PrintWords Go.Proofs.YthfeiklaoljdnaaDoorW.PrintLast Go.Proofs.YthfeiklaoljdnaaDoor.QBo Go.Proofs.YthfeiklaoljdnaaDoor.Board Go.Proofs.YthfeiklaoljdnaaDoor.BaseR Go.Proofs.YthfeiklaoljdnaaDoor.ReachR Go.Proofs.YthfeiklaoljdnaaDoor.Search Go.Proofs.YthfeiklaoljdnaaDoor.On
open Go.Proofs.YthfeiklaoljdnaaDoor.Reach (St)
open Go.Proofs.YthfeiklaoljdnaaDoor.WordR (wordS word_walk)
set_option linter.unusedVariables false
set_option linter.unusedSimpArgs false

def firstI (P : St → Bool) : Nat → List St → Int
  | _, [] => -1
  | j, t :: l => if P t = true then (j : Int) else firstI P (j + 1) l
theorem first_drop {P : St → Bool} {l : List St} {i : Nat} (hi : i < l.length) (hp : P l[i] = false) : firstI P i (l.drop i) = firstI P (i + 1) (l.drop (i + 1)) := by
  rw [List.drop_eq_getElem_cons hi, firstI, if_neg (by rw [hp]; decide)]
theorem first_hit {P : St → Bool} {l : List St} {i : Nat} (hi : i < l.length) (hp : P l[i] = true) : firstI P i (l.drop i) = (i : Int) := by
  rw [List.drop_eq_getElem_cons hi, firstI, if_pos hp]
theorem first_get {P : St → Bool} : ∀ {l : List St} {j : Nat}, 0 ≤ firstI P j l → ∃ k, firstI P j l = ((j + k : Nat) : Int) ∧ k < l.length
  | [], j, h => by simp [firstI] at h
  | t :: l, j, h => by
    unfold firstI at h ⊢
    by_cases hp : P t = true
    · rw [if_pos hp]
      exact ⟨0, rfl, by simp⟩
    · rw [if_neg hp] at h ⊢
      obtain ⟨k, h1, h2⟩ := first_get h
      exact ⟨k + 1, by rw [h1]; omega, by simpa using h2⟩
theorem first_neg {P : St → Bool} : ∀ {l : List St} {j : Nat}, ¬ 0 ≤ firstI P j l → firstI P j l = -1
  | [], j, h => rfl
  | t :: l, j, h => by
    unfold firstI at h ⊢
    by_cases hp : P t = true
    · rw [if_pos hp] at h
      omega
    · rw [if_neg hp] at h ⊢
      exact first_neg h
abbrev test (x y top : Int) (t : St) : Bool := (t.x == x && t.y == y) && t.d.t == top
/-! ### isAt and the closure -/
set_option maxHeartbeats 4000000 in
set_option maxRecDepth 100000 in
theorem isAt_walk (t : St) (x y : Int) (w : World) : Calls Tryd.prog 46 #[.agg (st8 t), .int .i64 x, .int .i64 y] w fun e w' => e = .returned (.bool (t.x == x && t.y == y)) ∧ Below w.heap.size w w' := by
  by_cases h : t.x = x
  · have e1 : (t.x == x) = true := by simpa using h
    have d1 : decide (t.x = x) = true := decide_eq_true h
    rw [e1, Bool.true_and]
    go_enter Tryd.func46, Tryd.ntmps46
    go_wp2_with fail
    go_ret
    refine ⟨?_, (Below.refl _ w).alloc (Nat.le_refl _) _⟩
    first | rfl | (simp; done) | (simp [h]; done)
  · have e1 : (t.x == x) = false := by simpa using h
    have d1 : decide (t.x = x) = false := decide_eq_false h
    rw [e1, Bool.false_and]
    go_enter Tryd.func46, Tryd.ntmps46
    go_wp2_with fail
    go_ret
    refine ⟨?_, (Below.refl _ w).alloc (Nat.le_refl _) _⟩
    first | rfl | (simp; done) | (simp [h]; done)
set_option maxHeartbeats 4000000 in
set_option maxRecDepth 100000 in
theorem test_walk (t : St) (x y top : Int) (X Y Z : Nat) (W : World) (hX : W.heap[X]? = some (.cells #[.int .i64 x] 3 (0, 0))) (hY : W.heap[Y]? = some (.cells #[.int .i64 y] 3 (0, 0))) (hZ : W.heap[Z]? = some (.cells #[.int .i64 top] 3 (0, 0))) :
    Calls Tryd.prog 49 #[.agg (st8 t), .pointer (some ⟨X, 0, none⟩), .pointer (some ⟨Y, 0, none⟩), .pointer (some ⟨Z, 0, none⟩)] W fun e w' => e = .returned (.bool (test x y top t)) ∧ Below W.heap.size W w' := by
  have HI := Go.Lib.hid (fun W => isAt_walk t x y W)
  have n0 : (W.alloc (.cells (st8 t) 30)).cell? ⟨X, 0, none⟩ = some (.int .i64 x) := blk_cell (blk_alloc hX _) 0
  have n1 : (W.alloc (.cells (st8 t) 30)).cell? ⟨Y, 0, none⟩ = some (.int .i64 y) := blk_cell (blk_alloc hY _) 0
  have HZ := Go.Lib.hid hZ
  clear hX hY hZ
  obtain ⟨q, hq⟩ : ∃ q, q = (t.x == x && t.y == y) := ⟨_, rfl⟩
  unfold test
  rw [← hq] at HI ⊢
  clear hq
  have n2 : (W.alloc (.cells (st8 t) 30)).cell? ⟨Z, 0, none⟩ = some (.int .i64 top) := blk_cell (blk_alloc HZ.out _) 0
  cases q with
  | false =>
    rw [Bool.false_and]
    go_enter Tryd.func49, Tryd.ntmps49
    go_wp2_with fail
    refine (HI.out _).mono ?_
    rintro e' w1 ⟨rfl, hb⟩
    have HB := Go.Lib.hid (below_then ((Below.refl _ W).alloc (Nat.le_refl _) (.cells (st8 t) 30)) (by simp) hb)
    clear hb n0 n1 n2
    go_wp2_with fail
    go_ret
    exact ⟨rfl, HB.out⟩
  | true =>
    rw [Bool.true_and]
    go_enter Tryd.func49, Tryd.ntmps49
    go_wp2_with fail
    refine (HI.out _).mono ?_
    rintro e' w1 ⟨rfl, hb⟩
    have HB := Go.Lib.hid (below_then ((Below.refl _ W).alloc (Nat.le_refl _) (.cells (st8 t) 30)) (by simp) hb)
    have m2 : w1.cell? ⟨Z, 0, none⟩ = some (.int .i64 top) := blk_cell (blk_below (blk_alloc HZ.out _) hb) 0
    have m3 : w1.cell? ⟨W.heap.size, 2, none⟩ = some (.int .i64 t.d.t) := blk_cell (blk_below (blk_new W (.cells (st8 t) 30)) hb) 2
    clear hb n0 n1 n2
    go_wp2_with fail
    go_ret
    exact ⟨rfl, HB.out⟩
/-! ### The first one -/
abbrev IXF := 66
set_option maxHeartbeats 4000000 in
set_option maxRecDepth 100000 in
theorem index_walk (x y top : Int) (X Y Z : Nat) (w0 w : World) (b c : Nat) (Ls : List St) (hr : Kd.R kSt 30 w w0.heap.size (fun _ => True) (.slice (some ⟨b, 0, none⟩) Ls.length c) (Ls.map sSt)) (hl : Ls.length ≤ 1000)
    (hX : w.heap[X]? = some (.cells #[.int .i64 x] 3 (0, 0))) (hY : w.heap[Y]? = some (.cells #[.int .i64 y] 3 (0, 0))) (hZ : w.heap[Z]? = some (.cells #[.int .i64 top] 3 (0, 0))) :
    Calls Tryd.prog 66 #[.slice (some ⟨b, 0, none⟩) Ls.length c, .func (.func 49) #[] #[.pointer (some ⟨X, 0, none⟩), .pointer (some ⟨Y, 0, none⟩), .pointer (some ⟨Z, 0, none⟩)]] w fun e w' => e = .returned (.int .i64 (firstI (test x y top) 0 Ls)) ∧ Below w.heap.size w w' := by
  have HT := Go.Lib.hid (fun t W (hb : Below w.heap.size w W) => test_walk t x y top X Y Z W (blk_below hX hb) (blk_below hY hb) (blk_below hZ hb))
  have HR := Go.Lib.hid hr
  have HL := Go.Lib.hid hl
  clear hr hl hX hY hZ
  go_enter Tryd.func66, Tryd.ntmps66
  go_wp2_with fail
  go_loopw [5, 8] (fun v5 v8 wr => ∃ i : Nat, v8 = .int .i64 (i : Int) ∧ i ≤ Ls.length ∧ firstI (test x y top) 0 Ls = firstI (test x y top) i (Ls.drop i) ∧ Below w.heap.size w wr) (fun _ v8 _ => Ls.length - (intOf v8).toNat)
  case atStart => exact ⟨0, rfl, Nat.zero_le _, by rw [List.drop_zero], Below.refl _ _⟩
  case round =>
    obtain ⟨i, rfl, hi, hf, hB⟩ := hrel
    have HB := Go.Lib.hid hB
    have HF := Go.Lib.hid hf
    clear hB hf
    by_cases hlt : i < Ls.length
    · obtain ⟨t, ht⟩ : ∃ t, t = Ls[i] := ⟨_, rfl⟩
      have hx : (Ls.map sSt)[i]? = some (sSt t) := by rw [List.getElem?_map, List.getElem?_eq_getElem hlt, ← ht, Option.map_some]
      obtain ⟨c0, c1, c2, c3, c4, c5, c6, c7⟩ := st_cells (Kd.R_below HR.out HB.out) i t hx
      have HTt := Go.Lib.hid (HT.out t wr HB.out)
      obtain ⟨q, hq⟩ : ∃ q, q = test x y top t := ⟨_, rfl⟩
      rw [← hq] at HTt
      have HQ := Go.Lib.hid (show test x y top Ls[i] = q by rw [hq, ht])
      have HLT := Go.Lib.hid hlt
      have hi0 : (0 : Int) ≤ (i : Int) := by omega
      have hi1 : (i : Int) < (Ls.length : Int) := by omega
      clear ht hx hq
      go_wp2_with fail
      refine HTt.out.mono ?_
      rintro e' w1 ⟨rfl, hb⟩
      have HB1 := Go.Lib.hid (below_then HB.out HB.out.size hb)
      clear hb c0 c1 c2 c3 c4 c5 c6 c7 HTt
      cases q with
      | true =>
        have hfin := first_hit (P := test x y top) HLT.out HQ.out
        rw [← HF.out] at hfin
        have HFIN := Go.Lib.hid hfin
        clear hfin
        go_wp2_with fail
        go_ret
        exact ⟨by rw [HFIN.out]; rfl, HB1.out⟩
      | false =>
        have hfin := first_drop (P := test x y top) HLT.out HQ.out
        rw [← HF.out] at hfin
        have HFIN := Go.Lib.hid hfin
        have hls := HL.out
        clear hfin
        go_wp2_with fail
        go_roundw
        case rel => exact ⟨i + 1, by go_num, by have := HLT.out; omega, HFIN.out, HB1.out⟩
        case measure =>
          have := HLT.out
          simp [intOf]
          omega
    · obtain rfl : i = Ls.length := by omega
      have hge : ¬ ((Ls.length : Int) < (Ls.length : Int)) := by omega
      have hfin := HF.out
      rw [List.drop_length, firstI] at hfin
      have HFIN := Go.Lib.hid hfin
      clear hfin hlt
      go_wp2_with fail
      go_ret
      exact ⟨by rw [HFIN.out]; rfl, HB.out⟩
/-! ### wordTo -/
def wordI (L : Bfs.Nodes St) (j : Int) : List Nat := (L.getD j.toNat (⟨0, 0, ⟨0, 0, 0, 0, 0, 0⟩⟩, [])).2
def toS (L : Bfs.Nodes St) (j : Int) : ByteArray := if 0 ≤ j then wordS (wordI L j) else ⟨#[]⟩
def toB (L : Bfs.Nodes St) (j : Int) : Bool := decide (0 ≤ j) && decide ((wordI L j).length ≤ 60)
set_option maxHeartbeats 4000000 in
set_option maxRecDepth 100000 in
theorem wordTo_walk (x y top : Int) (X Y Z : Nat) {mv : St → Nat → Option St} {s0 : St} (w0 w : World) (B M : Nat) (L : Bfs.Nodes St) (v0 v1 v2 v3 : Value) (h : RS w0 w B M L v0 v1 v2 v3) (hd : Bfs.Done mv s0 L) (hl : L.length ≤ 1000)
    (hX : w.heap[X]? = some (.cells #[.int .i64 x] 3 (0, 0))) (hY : w.heap[Y]? = some (.cells #[.int .i64 y] 3 (0, 0))) (hZ : w.heap[Z]? = some (.cells #[.int .i64 top] 3 (0, 0))) :
    Calls Tryd.prog 44 #[.pointer (some ⟨B, 0, none⟩), .func (.func 49) #[] #[.pointer (some ⟨X, 0, none⟩), .pointer (some ⟨Y, 0, none⟩), .pointer (some ⟨Z, 0, none⟩)]] w fun e w' => e = .returned (.tuple #[.string (toS L (firstI (test x y top) 0 (L.map (·.1)))), .bool (toB L (firstI (test x y top) 0 (L.map (·.1))))]) ∧ Below w.heap.size w w' := by
  have hpos := (List.getElem?_eq_some_iff.1 hd.root).1
  obtain ⟨b, c, hv, _, _⟩ := R_form h.r0 (by rw [List.length_map]; exact hpos)
  have hr := h.r0
  rw [hv] at hr
  have e1 : (L.map fun x => sSt x.1) = (L.map (·.1)).map sSt := by rw [List.map_map]; rfl
  have e2 : (L.map fun x => sSt x.1).length = (L.map (·.1)).length := by rw [List.length_map, List.length_map]
  rw [e2] at hr hv
  rw [e1] at hr
  obtain ⟨Ls, hLs⟩ : ∃ Ls, Ls = L.map (·.1) := ⟨_, rfl⟩
  have hLl : Ls.length = L.length := by rw [hLs, List.length_map]
  rw [← hLs] at hr hv ⊢
  have HI := Go.Lib.hid (index_walk x y top X Y Z w0 w b c Ls hr (by rw [hLl]; exact hl) hX hY hZ)
  have c0 : w.cell? ⟨B, 0, none⟩ = some v0 := blk_cell h.blk 0
  rw [hv] at c0
  have HRS := Go.Lib.hid h
  have HD := Go.Lib.hid hd
  have HL := Go.Lib.hid hl
  unfold toS toB
  obtain ⟨j, hj⟩ : ∃ j, j = firstI (test x y top) 0 Ls := ⟨_, rfl⟩
  rw [← hj] at HI ⊢
  by_cases hn : 0 ≤ j
  · obtain ⟨k, hk1, hk2⟩ := first_get (P := test x y top) (l := Ls) (j := 0) (by rw [← hj]; exact hn)
    rw [Nat.zero_add, ← hj] at hk1
    rw [hLl] at hk2
    rw [if_pos hn, decide_eq_true hn, Bool.true_and, hk1]
    rw [hk1] at HI
    obtain ⟨⟨u, wd⟩, hx⟩ : ∃ x, L[k]? = some x := ⟨_, List.getElem?_eq_getElem hk2⟩
    have hwd : wordI L (k : Int) = wd := by
      unfold wordI
      rw [Int.toNat_natCast, List.getD_eq_getElem?_getD, hx]
      rfl
    rw [hwd]
    have HX := Go.Lib.hid hx
    have hk0 : (0 : Int) ≤ (k : Int) := by omega
    have hk0' : ¬ (k : Int) < 0 := by omega
    clear hpos hv hr e1 e2 hLs hLl h hd hl hX hY hZ hj hn hk1 hk2 hx hwd
    go_enter Tryd.func44, Tryd.ntmps44
    go_wp2_with fail
    refine HI.out.mono ?_
    rintro e' w1 ⟨rfl, hb⟩
    have HW := Go.Lib.hid (word_walk w0 w1 B M L v0 v1 v2 v3 (RS.below HRS.out hb) HD.out HL.out k u wd HX.out)
    have HB := Go.Lib.hid hb
    clear hb c0 HI HRS
    go_wp2_with fail
    refine HW.out.mono ?_
    rintro e' w2 ⟨rfl, hb⟩
    have HB2 := Go.Lib.hid (below_then HB.out HB.out.size hb)
    clear hb HW HB
    go_wp2_with fail
    go_ret2
    exact ⟨rfl, HB2.out⟩
  · have hm := first_neg (P := test x y top) (l := Ls) (j := 0) (by rw [← hj]; exact hn)
    rw [← hj] at hm
    rw [if_neg hn, decide_eq_false hn, Bool.false_and]
    rw [hm] at HI
    clear hpos hv hr e1 e2 hLs hLl h hd hl hX hY hZ hj hn hm
    go_enter Tryd.func44, Tryd.ntmps44
    go_wp2_with fail
    refine HI.out.mono ?_
    rintro e' w1 ⟨rfl, hb⟩
    have HB := Go.Lib.hid hb
    clear hb c0 HI HRS
    go_wp2_with fail
    go_ret2
    exact ⟨rfl, HB.out⟩
/-! ### reachCell -/
def cellOk (s : ByteArray) (t : St) (x y : Int) : Bool := askB s t && hasB s.data.toList x y
set_option maxHeartbeats 4000000 in
set_option maxRecDepth 100000 in
theorem cell_walk (s : ByteArray) (hs : s.size ≤ 1048576) (t : St) (x y : Int) (w : World) :
    Calls Tryd.prog 43 #[.string s, .agg (st8 t), .int .i64 x, .int .i64 y] w fun e w' => Below w.heap.size w w' ∧ ((cellOk s t x y = false ∧ e = .returned (.tuple #[.pointer none, .bool false])) ∨
      (cellOk s t x y = true ∧ ∃ B M v0 v1 v2 v3, e = .returned (.tuple #[.pointer (some ⟨B, 0, none⟩), .bool true]) ∧ RS w w' B M (found (fl s) t) v0 v1 v2 v3)) := by
  obtain ⟨g, h1, h2⟩ := board_at s hs (s.size + 3) (by omega)
  have HC2 := Go.Lib.hid (fun W => impl_board.calls _ _ _ _ W h1)
  clear h1
  unfold cellOk
  cases ha : askB s t with
  | false =>
    have HC := Go.Lib.hid (fun W => on_no s hs t ha W)
    obtain ⟨q, hq⟩ : ∃ q, q = isB okB s.data.toList := ⟨_, rfl⟩
    rw [← hq] at HC2
    clear ha h2 hq
    go_enter Tryd.func43, Tryd.ntmps43
    go_wp2_with fail
    refine (HC.out _).mono ?_
    rintro e' w1 ⟨rfl, hb⟩
    have HB := Go.Lib.hid (below_then ((Below.refl _ w).alloc (Nat.le_refl _) (.cells (st8 t) 30)) (by simp) hb)
    clear hb
    go_wp2_with fail
    refine (HC2.out _).mono ?_
    rintro e' w2 ⟨v0, rfl, hr, hb⟩
    have HB2 := Go.Lib.hid (below_then HB.out HB.out.size hb)
    clear hr hb HB
    go_wp2_with fail
    go_ret2
    exact ⟨HB2.out, .inl ⟨rfl, rfl⟩⟩
  | true =>
    obtain ⟨hi, hg⟩ := ask_iff.1 ha
    obtain rfl := h2 (isB_iff.2 hi)
    rw [isB_iff.2 hi] at HC2
    have HC := Go.Lib.hid (fun W => on_yes s hs t ha W)
    have HH := Go.Lib.hid (fun A0 c0 W hr hc => impl_grid_has.calls A0 c0 (gridOf s) x y _ W hr hc (has_eq s hi x y))
    have HP := Go.Lib.hid (grid_pos s hi)
    clear ha h2 hi hg
    obtain ⟨gr, hgr⟩ : ∃ gr, gr = gridOf s := ⟨_, rfl⟩
    obtain ⟨L, hL⟩ : ∃ L, L = found (fl s) t := ⟨_, rfl⟩
    obtain ⟨q, hq⟩ : ∃ q, q = hasB s.data.toList x y := ⟨_, rfl⟩
    rw [← hgr] at HC2 HH HP
    rw [← hL] at HC ⊢
    rw [← hq] at HH ⊢
    clear hgr hL hq
    go_enter Tryd.func43, Tryd.ntmps43
    go_wp2_with fail
    refine (HC.out _).mono ?_
    rintro e' w1 ⟨B, M, v0, v1, v2, v3, rfl, hrs⟩
    have HRS := Go.Lib.hid (RS_lower hrs ((Below.refl _ w).alloc (Nat.le_refl _) (.cells (st8 t) 30)))
    clear hrs
    go_wp2_with fail
    refine (HC2.out _).mono ?_
    rintro e' w2 ⟨vg, rfl, hr, hb⟩
    have HRS2 := Go.Lib.hid (RS.below HRS.out hb)
    obtain ⟨b, c, hv, _, _⟩ := R_form hr HP.out
    subst hv
    have HH2 := Go.Lib.hid (HH.out _ _ w2 (Kd.R_reads' hr).2.2 (Kd.R_reads' hr).2.1)
    clear hr hb HRS
    go_wp2_with fail
    refine HH2.out.mono ?_
    rintro e' w3 ⟨rfl, hd⟩
    have HRS3 := Go.Lib.hid (RS.below HRS2.out hd.below)
    clear hd HRS2 HH2
    cases q with
    | false =>
      go_wp2_with fail
      go_ret2
      exact ⟨HRS3.out.bel, .inl ⟨rfl, rfl⟩⟩
    | true =>
      go_wp2_with fail
      go_ret2
      exact ⟨HRS3.out.bel, .inr ⟨rfl, B, M, v0, v1, v2, v3, rfl, HRS3.out⟩⟩
/-! ### The law's own function -/
def okF (s : ByteArray) (t : St) (x y top : Int) : Bool := cellOk s t x y && IsDie.inB top
def atF (s : ByteArray) (t : St) (x y top : Int) : Int := firstI (test x y top) 0 ((found (fl s) t).map (·.1))
def wayS (s : ByteArray) (t : St) (x y top : Int) : ByteArray := if okF s t x y top = true then toS (found (fl s) t) (atF s t x y top) else ⟨#[]⟩
def wayB (s : ByteArray) (t : St) (x y top : Int) : Bool := okF s t x y top && toB (found (fl s) t) (atF s t x y top)
set_option maxHeartbeats 4000000 in
set_option maxRecDepth 100000 in
theorem way_walk (s : ByteArray) (hs : s.size ≤ 1048576) (t : St) (x y top : Int) (w : World) :
    Calls Tryd.prog 30 #[.string s, .agg (st8 t), .int .i64 x, .int .i64 y, .int .i64 top] w fun e w' => e = .returned (.tuple #[.string (wayS s t x y top), .bool (wayB s t x y top)]) ∧ Below w.heap.size w w' := by
  obtain ⟨S, hS⟩ : ∃ S, S = wayS s t x y top := ⟨_, rfl⟩
  obtain ⟨T, hT⟩ : ∃ T, T = wayB s t x y top := ⟨_, rfl⟩
  rw [← hS, ← hT]
  have HST := Go.Lib.hid (And.intro hS hT)
  have HC := Go.Lib.hid (fun W => cell_walk s hs t x y W)
  clear hS hT
  go_enter Tryd.func30, Tryd.ntmps30
  go_wp2_with fail
  refine (HC.out _).mono ?_
  rintro e' w1 ⟨hb, ⟨hc, rfl⟩ | ⟨hc, B, M, v0, v1, v2, v3, rfl, hrs⟩⟩
  · have HB := Go.Lib.hid (below_then (((((Below.refl _ w).alloc (Nat.le_refl _) (.cells (st8 t) 30)).alloc (by simp) (.cells #[.int .i64 x] 3)).alloc (by simp; omega) (.cells #[.int .i64 y] 3)).alloc (by simp; omega) (.cells #[.int .i64 top] 3)) (by simp; omega) hb)
    have hfin : Ending.returned (.tuple #[.string ⟨#[]⟩, .bool false]) = Ending.returned (.tuple #[.string S, .bool T]) := by
      rw [HST.out.1, HST.out.2]
      unfold wayS wayB okF
      rw [hc]
      simp
    clear hb hc
    go_wp2_with fail
    go_ret2
    exact ⟨hfin, HB.out⟩
  · have HB := Go.Lib.hid (below_then (((((Below.refl _ w).alloc (Nat.le_refl _) (.cells (st8 t) 30)).alloc (by simp) (.cells #[.int .i64 x] 3)).alloc (by simp; omega) (.cells #[.int .i64 y] 3)).alloc (by simp; omega) (.cells #[.int .i64 top] 3)) (by simp; omega) hb)
    have hX : w1.heap[w.heap.size + 1]? = some (.cells #[.int .i64 x] 3 (0, 0)) := by
      have := blk_below (blk_alloc (blk_alloc (blk_new (w.alloc (.cells (st8 t) 30)) (.cells #[.int .i64 x] 3)) (.cells #[.int .i64 y] 3)) (.cells #[.int .i64 top] 3)) hb
      simpa using this
    have hY : w1.heap[w.heap.size + 1 + 1]? = some (.cells #[.int .i64 y] 3 (0, 0)) := by
      have := blk_below (blk_alloc (blk_new ((w.alloc (.cells (st8 t) 30)).alloc (.cells #[.int .i64 x] 3)) (.cells #[.int .i64 y] 3)) (.cells #[.int .i64 top] 3)) hb
      simpa using this
    have hZ : w1.heap[w.heap.size + 1 + 1 + 1]? = some (.cells #[.int .i64 top] 3 (0, 0)) := by
      have := blk_below (blk_new (((w.alloc (.cells (st8 t) 30)).alloc (.cells #[.int .i64 x] 3)).alloc (.cells #[.int .i64 y] 3)) (.cells #[.int .i64 top] 3)) hb
      simpa using this
    have cz : w1.cell? ⟨w.heap.size + 1 + 1 + 1, 0, none⟩ = some (.int .i64 top) := blk_cell hZ 0
    have HIN := Go.Lib.hid (fun W => IsDie.in_calls top W)
    have hca := hc
    unfold cellOk at hca
    rw [Bool.and_eq_true] at hca
    obtain ⟨hi, hg⟩ := ask_iff.1 hca.1
    have HW := Go.Lib.hid (fun w2 hX hY hZ hb => wordTo_walk x y top (w.heap.size + 1) (w.heap.size + 1 + 1) (w.heap.size + 1 + 1 + 1) _ w2 B M _ v0 v1 v2 v3 (RS.below hrs hb) (found_done (box hi) hg) (Nat.le_trans (found_length (box hi) hg) (by decide)) hX hY hZ)
    have HXYZ := Go.Lib.hid (And.intro hX (And.intro hY hZ))
    obtain ⟨q, hq⟩ : ∃ q, q = IsDie.inB top := ⟨_, rfl⟩
    have HF := Go.Lib.hid (show q = false → Ending.returned (.tuple #[.string ⟨#[]⟩, .bool false]) = Ending.returned (.tuple #[.string S, .bool T]) from fun hf => by
      rw [HST.out.1, HST.out.2]
      unfold wayS wayB okF
      rw [hc, ← hq, hf]
      simp)
    have HG := Go.Lib.hid (show q = true → Ending.returned (.tuple #[.string (toS (found (fl s) t) (atF s t x y top)), .bool (toB (found (fl s) t) (atF s t x y top))]) = Ending.returned (.tuple #[.string S, .bool T]) from fun hf => by
      rw [HST.out.1, HST.out.2]
      unfold wayS wayB okF
      rw [hc, ← hq, hf]
      simp)
    rw [← hq] at HIN
    clear hb hc hca hX hY hZ hi hg hrs hq
    go_wp2_with fail
    refine (HIN.out _).mono ?_
    rintro e' w2 ⟨rfl, rfl⟩
    clear HIN cz
    cases q with
    | false =>
      have hfin := HF.out rfl
      have HFF := Go.Lib.hid hfin
      clear hfin
      go_wp2_with fail
      go_ret2
      exact ⟨HFF.out, HB.out⟩
    | true =>
      have HGG := Go.Lib.hid (HG.out rfl)
      clear HF HG
      have HW2 := Go.Lib.hid (HW.out w1 HXYZ.out.1 HXYZ.out.2.1 HXYZ.out.2.2 (Below.refl _ _))
      go_wp2_with fail
      refine HW2.out.mono ?_
      rintro e' w2 ⟨rfl, hb⟩
      have HB2 := Go.Lib.hid (below_then HB.out HB.out.size hb)
      clear hb HW HW2 HB
      go_wp2_with fail
      go_ret2
      exact ⟨HGG.out, HB2.out⟩
end Go.Proofs.YthfeiklaoljdnaaDoor.FirstT
