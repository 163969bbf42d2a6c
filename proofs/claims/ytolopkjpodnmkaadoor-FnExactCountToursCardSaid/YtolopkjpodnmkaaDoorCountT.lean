/- The program's CountTours, walked. Conditions: a text of no more than 2^20 bytes. -/
import Derived.Test.YtolopkjpodnmkaaDoorToursF
import Derived.Test.YtolopkjpodnmkaaDoorLabC
namespace Go.Proofs.YtolopkjpodnmkaaDoor.CountT
open Go.RowKit Go.Proofs.YtolopkjpodnmkaaDoor.QBi Go.Proofs.YtolopkjpodnmkaaDoorW.PrintWords Go.Proofs.YtolopkjpodnmkaaDoorW.PrintLast Go.Proofs.YtolopkjpodnmkaaDoor.Board Go.Proofs.YtolopkjpodnmkaaDoor.IsDie Go.Proofs.YtolopkjpodnmkaaDoor.BaseM Go.Proofs.YtolopkjpodnmkaaDoor.LabG Go.Proofs.YtolopkjpodnmkaaDoor.LabC Go.Proofs.YtolopkjpodnmkaaDoor.MapT Go.Proofs.YtolopkjpodnmkaaDoor.ToursI Go.Proofs.YtolopkjpodnmkaaDoor.ToursF
open Go.Proofs.YtolopkjpodnmkaaDoor.Reach (St)
open Go.Proofs.YtolopkjpodnmkaaDoor.Tour (A)
open Go.Proofs.YtolopkjpodnmkaaDoor.ByteRow (unlab)
open Go.Proofs.YtolopkjpodnmkaaDoor.Dirs (dirOf)
set_option linter.unusedVariables false
set_option linter.unusedSimpArgs false

def askB (s : ByteArray) (x y a0 a1 a2 a3 a4 a5 : Int) : Bool := isB okL s.data.toList && stateB (s.data.toList.map unlab) x y a0 a1 a2 a3 a4 a5
theorem onLabels_at (s : ByteArray) (hs : s.size ≤ 1048576) (x y a0 a1 a2 a3 a4 a5 : Int) (k : Nat) (hk : s.size + 2 < k) :
    ∃ g, impl_onLabels.f k s x y a0 a1 a2 a3 a4 a5 = some (g, askB s x y a0 a1 a2 a3 a4 a5) ∧ (askB s x y a0 a1 a2 a3 a4 a5 = true → g = gridOf s) := by
  obtain ⟨g, h1, h2⟩ := labelled_at s hs k hk
  refine ⟨g, ?_, fun h => h2 ?_⟩
  · unfold impl_onLabels.f askB
    simp only [impl_labelled.f]
    rw [h1, Option.bind_some]
    cases hb : isB okL s.data.toList with
    | false => rfl
    | true =>
      obtain rfl := h2 hb
      have hp : IsB okB (ReadLab.plainText s).data.toList := by
        rw [plain_list]
        exact (plainB (isB_iff.1 hb))
      have q := isState_eq (ReadLab.plainText s) hp x y a0 a1 a2 a3 a4 a5
      rw [plain_list] at q
      rw [if_pos rfl]
      simp only [impl_grid_floor.f, impl_grid_isState.f]
      rw [floor_at s (isB_iff.1 hb), Option.bind_some, q]
      rfl
  · unfold askB at h
    rw [Bool.and_eq_true] at h
    exact h.1
theorem ask_parts {s : ByteArray} {x y a0 a1 a2 a3 a4 a5 : Int} (h : askB s x y a0 a1 a2 a3 a4 a5 = true) : IsB okL s.data.toList ∧ hasB s.data.toList x y = true ∧ ((0 ≤ x ∧ x < 7) ∧ (0 ≤ y ∧ y < 7)) := by
  unfold askB at h
  rw [Bool.and_eq_true] at h
  have hi := isB_iff.1 h.1
  have h2 := h.2
  refine ⟨hi, ?_, state_in (plainB hi) h2⟩
  unfold stateB at h2
  rw [Bool.and_eq_true] at h2
  rw [← has_map]
  exact floor_has h2.1
theorem dirOf_byt (i : Nat) (hi : i < 4) : dirOf (byt i) = i := by
  rcases i with _ | _ | _ | _ | i
  · rfl
  · rfl
  · rfl
  · rfl
  · omega
theorem grid_pos (s : ByteArray) (h : IsB okL s.data.toList) : 0 < (gridOf s).length := by
  have h1 := grid_length s
  have h2 := h.h1
  omega
abbrev askL (s : ByteArray) (t : St) : Bool := askB s t.x t.y t.d.t t.d.n t.d.e t.d.s t.d.w t.d.b
def GF (l : List UInt8) (t : St) : Prop := floorB (l.map unlab) t.x t.y = true ∧ good t.d.t t.d.n t.d.e t.d.s t.d.w t.d.b = true
def labC (l : List UInt8) (t : St) : Bool := decide (48 ≤ cellAt l t.x t.y) && decide (cellAt l t.x t.y ≤ 57)
theorem ask_gf {s : ByteArray} {t : St} (h : askL s t = true) : IsB okL s.data.toList ∧ GF s.data.toList t := by
  unfold askL askB at h
  rw [Bool.and_eq_true] at h
  have h2 := h.2
  unfold stateB at h2
  rw [Bool.and_eq_true] at h2
  exact ⟨isB_iff.1 h.1, h2⟩
theorem over_calls (s : ByteArray) (h : IsB okL s.data.toList) (t : St) (ht : GdL s.data.toList t) (i : Nat) (hi : i < 4) (A0 : Option Addr) (c0 : Nat) (W : World) (hr0 : Kd.C Kd.string W A0 (gridOf s).length (gridOf s)) (hc0 : (gridOf s).length ≤ c0) :
    Calls Tryd.prog 30 #[.slice A0 (gridOf s).length c0, .agg (st8 t), .int .u8 (byt i)] W fun e w' => e = .returned (.tuple #[.agg (st8 (moved t i)), .bool (canL s.data.toList t i)]) ∧ Below W.heap.size W w' := by
  obtain ⟨⟨x0, x1⟩, y0, y1⟩ := (rules h).inn _ ht
  have h7 := h.h7
  have w7 := h.w7
  have he := overS_eq s h t (by omega) (by omega) (byt i) ht.2
  rw [dirOf_byt i hi] at he
  exact Go.Proofs.YtolopkjpodnmkaaDoor.Over.says_calls A0 c0 (gridOf s) t.x t.y t.d.t t.d.n t.d.e t.d.s t.d.w t.d.b (byt i) _ _ _ _ _ _ _ _ _ W hr0 hc0 he
def nL (s : ByteArray) : Nat := (cells s.data.toList).countP digB
def okT (s : ByteArray) (t : St) : Bool := askL s t && decide (nL s ≤ 12)
def cntT (s : ByteArray) (t : St) : Nat := A (canL s.data.toList) moved (labC s.data.toList) (mB s.data.toList) cellOf (nL s) t []
theorem cells_calls (s : ByteArray) (h : IsB okL s.data.toList) (A0 : Option Addr) (c0 : Nat) (W : World) (hr0 : Kd.C Kd.string W A0 (gridOf s).length (gridOf s)) (hc0 : (gridOf s).length ≤ c0) :
    Calls Tryd.prog 19 #[.slice A0 (gridOf s).length c0] W fun e w' => ∃ (al : Option Addr) (cl : Nat), e = .returned (.slice al (nL s) cl) ∧ Below W.heap.size W w' := by
  obtain ⟨out, o1, o2⟩ := cells_l0 s h (high s.data.toList) 0 100 [] (by omega) (by have := h.h7; omega) (by simp)
  have hf : QBo.impl_grid_labelledCells.f 100 (gridOf s) = some out := by
    unfold QBo.impl_grid_labelledCells.f
    rw [grid_length]
    exact o2
  have hn : out.length = nL s := by
    rw [o1, List.drop_zero]
    unfold nL cells
    simp
  refine (QBo.impl_grid_labelledCells.calls 100 A0 c0 (gridOf s) out W hr0 hc0 hf).mono ?_
  rintro e w' ⟨v0, rfl, hr, hb⟩
  obtain ⟨al, cl, rfl, _, _⟩ := Kd.R_reads hr
  rw [hn]
  exact ⟨al, cl, rfl, hb⟩
set_option maxHeartbeats 4000000 in
set_option maxRecDepth 100000 in
theorem tourable_walk (s : ByteArray) (hs : s.size ≤ 1048576) (t : St) (w : World) : Calls Tryd.prog 10 #[.string s, .agg (st8 t)] w fun e w' =>
    ∃ v0 : Value, e = .returned (.tuple #[v0, .bool (okT s t)]) ∧ Below w.heap.size w w' ∧ (okT s t = true → ∃ A0 c0, v0 = .slice A0 (gridOf s).length c0 ∧ (gridOf s).length ≤ c0 ∧ Kd.C Kd.string w' A0 (gridOf s).length (gridOf s)) := by
  obtain ⟨g, h1, h2⟩ := onLabels_at s hs t.x t.y t.d.t t.d.n t.d.e t.d.s t.d.w t.d.b (s.size + 3) (by omega)
  unfold okT
  cases ha : askL s t with
  | false =>
    have ha' : askB s t.x t.y t.d.t t.d.n t.d.e t.d.s t.d.w t.d.b = false := ha
    rw [ha'] at h1
    have HC := Go.Lib.hid (fun W => impl_onLabels.calls _ _ _ _ _ _ _ _ _ _ _ _ W h1)
    rw [Bool.false_and]
    clear ha ha' h1 h2
    go_enter Tryd.func10, Tryd.ntmps10
    go_wp2_with fail
    refine (HC.out _).mono ?_
    rintro e' w1 ⟨v0, rfl, hr, hb⟩
    have HB := Go.Lib.hid (below_then ((Below.refl _ w).alloc (Nat.le_refl _) (.cells (st8 t) 30)) (by simp) hb)
    clear hr hb
    go_wp2_with fail
    go_ret2
    exact ⟨_, rfl, HB.out, fun h_ => by cases h_⟩
  | true =>
    have ha' : askB s t.x t.y t.d.t t.d.n t.d.e t.d.s t.d.w t.d.b = true := ha
    obtain rfl := h2 ha'
    rw [ha'] at h1
    obtain ⟨hi, _, _⟩ := ask_parts ha'
    have HC := Go.Lib.hid (fun W => impl_onLabels.calls _ _ _ _ _ _ _ _ _ _ _ _ W h1)
    have HCL := Go.Lib.hid (fun A0 c0 W hr hc => cells_calls s hi A0 c0 W hr hc)
    have HP := Go.Lib.hid (grid_pos s hi)
    have hn36 : nL s ≤ 36 := Nat.le_trans List.countP_le_length (by rw [hi.cells_length]; exact hi.c36)
    obtain ⟨nl, hnl⟩ : ∃ nl, nl = nL s := ⟨_, rfl⟩
    obtain ⟨gr, hgr⟩ : ∃ gr, gr = gridOf s := ⟨_, rfl⟩
    rw [← hgr] at HC HCL HP ⊢
    rw [← hnl] at HCL hn36 ⊢
    rw [Bool.true_and]
    clear ha ha' h1 h2 hi hgr hnl
    go_enter Tryd.func10, Tryd.ntmps10
    go_wp2_with fail
    refine (HC.out _).mono ?_
    rintro e' w1 ⟨v0, rfl, hr, hb⟩
    have HB := Go.Lib.hid (below_then ((Below.refl _ w).alloc (Nat.le_refl _) (.cells (st8 t) 30)) (by simp) hb)
    obtain ⟨A0, c0, rfl, hc, hC⟩ := Kd.R_reads hr
    have HL := Go.Lib.hid (HCL.out A0 c0 w1 hC hc)
    have HG := Go.Lib.hid (And.intro hc hC)
    clear hr hb hc hC HC HCL
    go_wp2_with fail
    refine HL.out.mono ?_
    rintro e' w2 ⟨al, cl, rfl, hb⟩
    have HB2 := Go.Lib.hid (below_then HB.out HB.out.size hb)
    have HG2 := Go.Lib.hid (And.intro HG.out.1 (Kd.C_below HG.out.2 hb))
    clear hb HB HG HL
    go_wp2_with fail
    go_ret2
    refine ⟨_, ?_, HB2.out, fun _ => ⟨A0, c0, rfl, HG2.out.1, HG2.out.2⟩⟩
    have e1 : decide ((nl : Int) ≤ 12) = decide (nl ≤ 12) := decide_eq_decide.2 (by omega)
    first | rfl | (rw [← e1]; done) | (simp [← e1]; done) | (simp only [e1]; rfl)
theorem lab_zero {l : List UInt8} (h : IsB okL l) (hz : (cells l).countP digB = 0) (x y : Int) : (decide (48 ≤ cellAt l x y) && decide (cellAt l x y ≤ 57)) = false := by
  by_cases hb : hasB l x y = true
  · obtain ⟨⟨y0, y1⟩, x0, x1⟩ := has_iff.1 hb
    obtain ⟨yn, rfl⟩ : ∃ yn : Nat, y = yn := ⟨y.toNat, by omega⟩
    obtain ⟨xn, rfl⟩ : ∃ xn : Nat, x = xn := ⟨x.toNat, by omega⟩
    rw [List.countP_eq_zero] at hz
    have hyl : yn < (rows l).length := by unfold high at y1; omega
    have hg : (rows l).getD yn [] = (rows l)[yn] := by simp [List.getD, hyl]
    have hw : ((rows l).getD yn []).length = wide l := getD_row h yn (by omega)
    have hxl : xn < ((rows l).getD yn []).length := by omega
    have hmem : ((rows l).getD yn []).getD xn 0 ∈ cells l := by
      unfold cells
      refine List.mem_flatten.2 ⟨(rows l).getD yn [], by rw [hg]; exact List.getElem_mem hyl, ?_⟩
      generalize (rows l).getD yn [] = r at hxl ⊢
      have he : r.getD xn 0 = r[xn] := by simp [List.getD, hxl]
      rw [he]
      exact List.getElem_mem hxl
    have hm := hz _ hmem
    unfold digB at hm
    unfold cellAt
    rw [if_pos hb]
    simp only [Int.toNat_natCast]
    simpa using hm
  · unfold cellAt
    rw [if_neg hb]
    decide
set_option maxHeartbeats 4000000 in
set_option maxRecDepth 100000 in
theorem count_walk (s : ByteArray) (hs : s.size ≤ 1048576) (t : St) (w : World) : Calls Tryd.prog 6 #[.string s, .agg (st8 t)] w fun e w' =>
    e = .returned (.tuple #[.int .i64 (if okT s t = true then (cntT s t : Int) else 0), .bool (okT s t)]) ∧ Below w.heap.size w w' := by
  have HC := Go.Lib.hid (fun W => tourable_walk s hs t W)
  obtain ⟨q, hq⟩ : ∃ q, q = okT s t := ⟨_, rfl⟩
  have HQ := Go.Lib.hid hq
  rw [← hq] at HC ⊢
  clear hq
  cases q with
  | false =>
    rw [if_neg (by decide)]
    go_enter Tryd.func6, Tryd.ntmps6
    go_wp2_with fail
    refine (HC.out _).mono ?_
    rintro e' w1 ⟨v0, rfl, hb, _⟩
    have HB := Go.Lib.hid (below_then ((Below.refl _ w).alloc (Nat.le_refl _) (.cells (st8 t) 30)) (by simp) hb)
    clear hb
    go_wp2_with fail
    go_ret2
    exact ⟨rfl, HB.out⟩
  | true =>
    rw [if_pos rfl]
    have hok := HQ.out.symm
    unfold okT at hok
    rw [Bool.and_eq_true, decide_eq_true_eq] at hok
    obtain ⟨hi, hgf⟩ := ask_gf hok.1
    obtain ⟨cnt, hcnt⟩ : ∃ cnt, cnt = cntT s t := ⟨_, rfl⟩
    rw [← hcnt]
    have HCNT := Go.Lib.hid hcnt
    have HN := Go.Lib.hid hok.2
    have HI := Go.Lib.hid hi
    have HGF := Go.Lib.hid hgf
    clear hok hi hgf hcnt
    go_enter Tryd.func6, Tryd.ntmps6
    go_wp2_with fail
    refine (HC.out _).mono ?_
    rintro e' w5 ⟨v0, rfl, hb, hv⟩
    obtain ⟨A0, c0, rfl, hc, hC⟩ := hv trivial
    have HB := Go.Lib.hid (below_then ((Below.refl _ w).alloc (Nat.le_refl _) (.cells (st8 t) 30)) (by simp) hb)
    have HBX := Go.Lib.hid (blk_below (blk_new w (.cells (st8 t) 30)) hb)
    have HG := Go.Lib.hid (And.intro hc hC)
    obtain ⟨gn, hgn⟩ : ∃ gn, gn = (gridOf s).length := ⟨_, rfl⟩
    have hcells : ∀ W', Below w5.heap.size w5 W' → Calls Tryd.prog 19 #[.slice A0 gn c0] W' fun e w' => ∃ (al : Option Addr) (cl : Nat), e = .returned (.slice al (nL s) cl) ∧ Below W'.heap.size W' w' := fun W' hW' => by
      rw [hgn]
      exact cells_calls s HI.out A0 c0 W' (Kd.C_below hC hW') hc
    have hlab : ∀ u W', Below w5.heap.size w5 W' → Calls Tryd.prog 28 #[.slice A0 gn c0, .int .i64 u.x, .int .i64 u.y] W' fun e w' => e = .returned (.tuple #[.int .i64 (cellAt s.data.toList u.x u.y - 48), .bool (labC s.data.toList u)]) ∧ Below W'.heap.size W' w' := fun u W' hW' => by
      rw [hgn]
      exact (QBo.impl_grid_label.calls A0 c0 (gridOf s) u.x u.y _ _ W' (Kd.C_below hC hW') hc (label_eq s HI.out u.x u.y)).mono fun e w' ⟨he, hd⟩ => ⟨he, hd.below⟩
    have hmat : ∀ (u : St) W', Below w5.heap.size w5 W' → Calls Tryd.prog 29 #[.slice A0 gn c0, .agg (st8 u)] W' fun e w' => e = .returned (.bool (mB s.data.toList u)) ∧ Below W'.heap.size W' w' := fun u W' hW' => by
      rw [hgn]
      exact QBo.impl_grid_matches.calls A0 c0 (gridOf s) _ _ _ _ _ _ _ _ _ W' (Kd.C_below hC hW') hc (matches_eq s HI.out u.x u.y u.d.t u.d.n u.d.e u.d.s u.d.w u.d.b)
    have hover : ∀ (u : St) i W', GdL s.data.toList u → i < 4 → Below w5.heap.size w5 W' → Calls Tryd.prog 30 #[.slice A0 gn c0, .agg (st8 u), .int .u8 (byt i)] W' fun e w' => e = .returned (.tuple #[.agg (st8 (moved u i)), .bool (canL s.data.toList u i)]) ∧ Below W'.heap.size W' w' := fun u i W' hu hi4 hW' => by
      rw [hgn]
      exact over_calls s HI.out u hu i hi4 A0 c0 W' (Kd.C_below hC hW') hc
    have hcm : ∀ u i, canL s.data.toList u i = true → mB s.data.toList (moved u i) = true := fun u i h_ => by
      unfold canL at h_
      rw [Bool.and_eq_true] at h_
      exact h_.2
    obtain ⟨C, hCs⟩ : ∃ C, C = w5.heap.size := ⟨_, rfl⟩
    have HF := Go.Lib.hid (show ∀ W, Below w5.heap.size w5 W → CC W C 0 → Calls Tryd.prog 11 #[.slice A0 gn c0, .agg (st8 t), .func (.func 12) #[] #[.pointer (some ⟨C, 0, none⟩)]] W fun e w' => e = .returned (.tuple #[]) ∧ Below w5.heap.size w5 w' ∧ CC w' C (cnt : Int) from fun W hW hCC =>
      from_walk A0 gn c0 C (nL s) cnt t w5 W hW (by omega) hCC hcells (fun W' M hW' hM hCM hMT hCC' => by
        cases hn : nL s with
        | zero =>
          have hz : labC s.data.toList t = false := lab_zero HI.out hn t.x t.y
          refine (tours_none (fun u => cellAt s.data.toList u.x u.y - 48) A0 gn c0 C M ⟨#[]⟩ _ t W' (fun W2 hW2 => by
            have := hlab t W2 (below_then hW' hW'.size hW2)
            rw [hz] at this
            exact this)).mono ?_
          rintro e w' ⟨rfl, hb_⟩
          refine ⟨rfl, below_then hW' hW'.size hb_, ?_⟩
          have h0 : cnt = 0 := by
            rw [HCNT.out]
            unfold cntT
            rw [hn]
            rfl
          rw [h0]
          exact blk_below hCC' hb_
        | succ n =>
          have h12 := HN.out
          refine (tours_walk (labC s.data.toList) (mB s.data.toList) (fun u => cellAt s.data.toList u.x u.y - 48) (canL s.data.toList) (GdL s.data.toList) (GF s.data.toList) A0 gn c0 C M w5 (by omega) hM hCM
            (fun n u met => Tour.A_le _ _ _ _ _ hcm n u met) (fun u h1 h2 => ⟨h1, h2⟩) (fun u i h1 h2 => ((rules HI.out).go u i h1 h2).1) hlab hmat hover n t [] ⟨#[]⟩ 0 W' (by omega) HGF.out hW' hMT hCC' ⟨Int.le_refl _, by
              have h1 : (4 ^ n : Nat) ≤ 4 ^ 11 := Nat.pow_le_pow_right (by decide) (by omega)
              have h2 : (4 ^ 11 : Nat) = 4194304 := by decide
              omega⟩ (by show 0 + n ≤ 100; omega)).mono ?_
          rintro e w' ⟨rfl, hkp, _, hcc⟩
          refine ⟨rfl, kp_below hW' hkp (by omega) hM, ?_⟩
          rw [Int.zero_add] at hcc
          rw [HCNT.out]
          unfold cntT
          rw [hn]
          exact hcc))
    rw [← hgn]
    clear hcells hlab hmat hover hcm hc hC hb hgn hv HC
    go_upto_region 5 with fail
    have n_B6 := Go.Lib.hid (show Below w5.heap.size w5 (w5.alloc (.cells #[.int .i64 0] 3)) from (Below.refl _ w5).alloc (Nat.le_refl _) _)
    have n_CC := Go.Lib.hid (show CC (w5.alloc (.cells #[.int .i64 0] 3)) w5.heap.size 0 from blk_new w5 _)
    have n_BX := Go.Lib.hid (blk_alloc HBX.out (.cells #[.int .i64 0] 3))
    rw [← hCs] at n_CC ⊢
    clear hCs
    generalize World.alloc _ _ = w6 at n_B6 n_CC n_BX ⊢
    have m0_ : w6.cell? ⟨w.heap.size, 0, none⟩ = some (.int .i64 t.x) := blk_cell n_BX.out 0
    have m1_ : w6.cell? ⟨w.heap.size, 1, none⟩ = some (.int .i64 t.y) := blk_cell n_BX.out 1
    have m2_ : w6.cell? ⟨w.heap.size, 2, none⟩ = some (.int .i64 t.d.t) := blk_cell n_BX.out 2
    have m3_ : w6.cell? ⟨w.heap.size, 3, none⟩ = some (.int .i64 t.d.n) := blk_cell n_BX.out 3
    have m4_ : w6.cell? ⟨w.heap.size, 4, none⟩ = some (.int .i64 t.d.e) := blk_cell n_BX.out 4
    have m5_ : w6.cell? ⟨w.heap.size, 5, none⟩ = some (.int .i64 t.d.s) := blk_cell n_BX.out 5
    have m6_ : w6.cell? ⟨w.heap.size, 6, none⟩ = some (.int .i64 t.d.w) := blk_cell n_BX.out 6
    have m7_ : w6.cell? ⟨w.heap.size, 7, none⟩ = some (.int .i64 t.d.b) := blk_cell n_BX.out 7
    go_wp2_with fail
    refine (HF.out w6 n_B6.out n_CC.out).mono ?_
    rintro e' w7 ⟨rfl, hb, hcc⟩
    have c0_ : w7.cell? ⟨C, 0, none⟩ = some (.int .i64 (cnt : Int)) := blk_cell hcc 0
    have HB7 := Go.Lib.hid (below_then HB.out HB.out.size hb)
    clear hb hcc m0_ m1_ m2_ m3_ m4_ m5_ m6_ m7_
    go_wp2_with fail
    go_ret2
    exact ⟨rfl, HB7.out⟩
end Go.Proofs.YtolopkjpodnmkaaDoor.CountT
