/- The law FnDiceRoll, walked: it returns true. Conditions: the codes are bytes. -/
import Derived.Test.YtfcifidjjbknaaaDoorDraw
import Derived.Test.YtfcifidjjbknaaaDoorRollL
import Derived.Test.YtfcifidjjbknaaaDoorWOne
import Derived.Lib.OthersKept
import Derived.Laws.DeepStrings4
namespace Go.Proofs.YtfcifidjjbknaaaDoor.RollW
open Go.RowKit Go.Proofs.YtfcifidjjbknaaaDoorW.PrintWords Go.Proofs.YtfcifidjjbknaaaDoorW.PrintLast Go.Proofs.YtfcifidjjbknaaaDoor.Words Go.Proofs.YtfcifidjjbknaaaDoor.RollC Go.Proofs.YtfcifidjjbknaaaDoor.RollL Go.Proofs.YtfcifidjjbknaaaDoor.DieKey
open Go.Proofs.YtfcifidjjbknaaaDoor.Dice (Die roll rolled plain)
open Go.Proofs.YtfcifidjjbknaaaDoor.Dirs (dirs dirs_length dirOf)
attribute [local go_sem high] eqA
set_option linter.unusedVariables false
set_option linter.unusedSimpArgs false

def bigB (a b : Nat) : Bool := decide (1048576 < a) || decide (1048576 < a + b)
set_option maxHeartbeats 4000000 in
set_option maxRecDepth 100000 in
theorem big_walk (A0 A1 : Option Addr) (n0 c0 n1 c1 : Nat) (w : World) : Calls Tryd.prog 4 #[.slice A0 n0 c0, .slice A1 n1 c1] w fun e w' => e = .returned (.bool (bigB n0 n1)) ∧ Below w.heap.size w w' := by
  unfold bigB
  by_cases h : 1048576 < n0
  · have h1 : (1048576 : Int) < (n0 : Int) := by omega
    have h2 : decide (1048576 < n0) = true := decide_eq_true h
    go_enter Tryd.func4, Tryd.ntmps4
    go_wp2_with fail
    go_ret
    exact ⟨by simp [h], Below.refl _ _⟩
  · have h1 : ¬ (1048576 : Int) < (n0 : Int) := by omega
    have h2 : decide (1048576 < n0) = false := decide_eq_false h
    have hw : IntKind.i64.wrap (1048576 - (n0 : Int)) = 1048576 - (n0 : Int) := by rw [IntKind.wrap_i64]; omega
    have e : decide (1048576 - (n0 : Int) < (n1 : Int)) = decide (1048576 < n0 + n1) := decide_eq_decide.2 (by omega)
    go_enter Tryd.func4, Tryd.ntmps4
    go_wp2_with fail
    go_ret
    exact ⟨by simp [h], Below.refl _ _⟩
theorem ascii_at {s : ByteArray} (hg : goodWord s = true) {i : Nat} (hi : i < s.size) : (s[i]'hi).toNat < 128 := by
  have hc := isW_at (good_small hg).2 i hi
  have h : s.data.toList[i] = 110 ∨ s.data.toList[i] = 101 ∨ s.data.toList[i] = 115 ∨ s.data.toList[i] = 119 := by simpa [letters] using hc
  show (s.data.toList[i]).toNat < 128
  rcases h with e | e | e | e <;> rw [e] <;> decide
theorem cut1 (s : ByteArray) (i : Nat) (hi : i < s.size) (W : World) : (Instr.slice 9 (.string s) (some (.int .i64 (i : Int))) (some (.int .i64 ((i : Int) + 1))) none).run Tryd.prog W = .ok (.string (s.extract i (i + 1))) W := by
  rw [run_slice_string_if (h := Tryd.underlying9), if_pos ⟨by omega, by omega⟩, if_pos ⟨by omega, by omega⟩]
  rfl
theorem put6_far {w : World} {R k : Nat} {o : Obj} (h : w.heap[k]? = some o) (hk : k ≠ R) (a b c d e f : Int) : (Draw.put6 w R a b c d e f).heap[k]? = some o := by
  unfold Draw.put6
  rw [Below.heap_setCell _ _ _ k hk, Below.heap_setCell _ _ _ k hk, Below.heap_setCell _ _ _ k hk, Below.heap_setCell _ _ _ k hk, Below.heap_setCell _ _ _ k hk, Below.heap_setCell _ _ _ k hk]
  exact h
theorem iter_pos {w : World} {k : Nat} {s : ByteArray} {p : Nat} (h : w.heap[k]? = some (.stringIter s p)) : w.iterPos k = p := by simp [World.iterPos, h]
def rlw.T13 : Bool × List (List Nat × List Nat) := (true, [([], []), ([], []), ([], []), ([], []), ([3], [3]), ([1, 2, 4], [1, 2, 4]), ([0, 5], [0, 5]), ([6], [6]), ([7], [7]), ([7], [7]), ([], []), ([10, 8, 6, 0, 1, 2, 3, 4, 5, 6, 7, 8, 10], [8, 10]), ([9, 11, 0, 1, 2, 3, 4, 5, 6, 7, 8, 9, 10, 11], [9])])
def rlw.B13 : List Nat := [0, 0, 0, 0, 8, 30, 63, 127, 255, 255, 0, 1535, 4095]
theorem rlw.tab13 : rtab .any (opsOf Tryd.f3 13) = rlw.T13 := by kernel_rfl
theorem rlw.bits13 : waitsOk rlw.T13.2 rlw.B13 = true := by kernel_rfl
abbrev Blk (W : World) (b : Nat) (d : Die) : Prop := W.heap[b]? = some (.cells (sx d) 25 (0, 0))
set_option maxHeartbeats 8000000 in
set_option maxRecDepth 100000 in
theorem law_walk (A0 A1 : Option Addr) (c0 c1 : Nat) (l0 l1 : List Int) (w : World) (h0 : Kd.C (Kd.int .u8) w A0 l0.length l0) (h1 : Kd.C (Kd.int .u8) w A1 l1.length l1) (b0 : ∀ b ∈ l0, 0 ≤ b ∧ b < 256) (b1 : ∀ b ∈ l1, 0 ≤ b ∧ b < 256) :
    Calls Tryd.prog 3 #[.slice A0 l0.length c0, .slice A1 l1.length c1] w fun e w' => e = .returned (.bool true) ∧ Below w.heap.size w w' := by
  have HBIG := Go.Lib.hid (big_walk A0 A1 l0.length c0 l1.length c1 w)
  cases hbig : bigB l0.length l1.length with
  | true =>
    rw [hbig] at HBIG
    clear hbig h0 h1 b0 b1
    go_enter Tryd.func3, Tryd.ntmps3
    go_wp2_with fail
    refine HBIG.out.mono ?_
    rintro e w1 ⟨rfl, hb⟩
    go_wp2_with fail
    go_ret
    exact ⟨rfl, hb⟩
  | false =>
    rw [hbig] at HBIG
    have hsz : l0.length ≤ 1048576 ∧ l1.length ≤ 1048576 := by
      unfold bigB at hbig
      simp only [Bool.or_eq_false_iff, decide_eq_false_iff_not] at hbig
      omega
    have HDW := Go.Lib.hid (fun W (hW : Below w.heap.size w W) => Draw.word_walk A0 c0 l0 W (Kd.C_below h0 hW) ⟨b0, hsz.1⟩)
    have HDD := Go.Lib.hid (fun W (hW : Below w.heap.size w W) => Draw.way_walk A1 c1 l1 W (Kd.C_below h1 hW) ⟨b1, hsz.2⟩)
    have HDT := Go.Lib.hid (fun W (hW : Below w.heap.size w W) => Draw.turn_walk A1 c1 l1 W (Kd.C_below h1 hW) ⟨b1, hsz.2⟩)
    clear hbig h0 h1 b0 b1 hsz
    go_enter Tryd.func3, Tryd.ntmps3
    go_wp2_with fail
    refine HBIG.out.mono ?_
    rintro e w1 ⟨rfl, hb⟩
    have HB := Go.Lib.hid hb
    clear hb HBIG
    go_wp2_with fail
    refine (HDW.out w1 HB.out).mono ?_
    rintro e w2 ⟨a0, a1, a2, a3, a4, a5, s, rfl, hz, hb⟩
    have HZ := Go.Lib.hid hz
    have n_HB := Go.Lib.hid (below_then HB.out HB.out.size hb)
    obtain ⟨d, hd⟩ : ∃ d : Die, d = ⟨a0, a1, a2, a3, a4, a5⟩ := ⟨_, rfl⟩
    rw [show DiF.six a0 a1 a2 a3 a4 a5 = sx d from by rw [hd]]
    clear hd hz hb HB HDW a0 a1 a2 a3 a4 a5
    have HB := n_HB
    clear n_HB
    go_upto_region 4 with fail
    have n_HB := Go.Lib.hid (HB.out.alloc HB.out.size (.cells (sx d) 25))
    have n_BKD := Go.Lib.hid (blk_new w2 (.cells (sx d) 25))
    obtain ⟨bD, hbD⟩ : ∃ b, b = w2.heap.size := ⟨_, rfl⟩
    have HFD := Go.Lib.hid (show w.heap.size ≤ bD from by rw [hbD]; exact HB.out.size)
    rw [← hbD] at n_BKD ⊢
    clear hbD HB 
    generalize World.alloc _ _ = w11 at n_HB n_BKD ⊢
    have HB := n_HB
    have BKD := n_BKD
    clear n_HB n_BKD
    have hs20 : s.size ≤ 1048576 := by have h_ := HZ.out; omega
    have HSZ := Go.Lib.hid hs20
    clear hs20
    obtain ⟨en, hen⟩ : ∃ x, x = rwD d s := ⟨_, rfl⟩
    have HEN := Go.Lib.hid hen
    obtain ⟨ok, hok⟩ : ∃ x, x = rwB d s := ⟨_, rfl⟩
    have HOK := Go.Lib.hid hok
    clear hen hok
    have cD0 : w11.cell? ⟨bD, 0, none⟩ = some (.int .i64 d.t) := blk_cell BKD.out 0
    have cD1 : w11.cell? ⟨bD, 1, none⟩ = some (.int .i64 d.n) := blk_cell BKD.out 1
    have cD2 : w11.cell? ⟨bD, 2, none⟩ = some (.int .i64 d.e) := blk_cell BKD.out 2
    have cD3 : w11.cell? ⟨bD, 3, none⟩ = some (.int .i64 d.s) := blk_cell BKD.out 3
    have cD4 : w11.cell? ⟨bD, 4, none⟩ = some (.int .i64 d.w) := blk_cell BKD.out 4
    have cD5 : w11.cell? ⟨bD, 5, none⟩ = some (.int .i64 d.b) := blk_cell BKD.out 5
    go_wp2_with fail
    refine (rollWordI d s HSZ.out _).mono ?_
    rintro e w12 ⟨rfl, hb⟩
    have n_HB := Go.Lib.hid (below_then HB.out HB.out.size hb)
    have n_BKD := Go.Lib.hid (blk_below BKD.out hb)
    clear HB BKD
    have HB := n_HB
    have BKD := n_BKD
    clear n_HB n_BKD
    clear hb
    clear cD0 cD1 cD2 cD3 cD4 cD5
    rw [← HEN.out, ← HOK.out]
    go_upto_region 5 with fail
    have n_HB := Go.Lib.hid (HB.out.alloc HB.out.size (.cells (sx en) 25))
    have n_BKD := Go.Lib.hid (blk_alloc BKD.out (.cells (sx en) 25))
    have n_BKE := Go.Lib.hid (blk_new w12 (.cells (sx en) 25))
    obtain ⟨bE, hbE⟩ : ∃ b, b = w12.heap.size := ⟨_, rfl⟩
    have HFE := Go.Lib.hid (show w.heap.size ≤ bE from by rw [hbE]; exact HB.out.size)
    have NEDE := Go.Lib.hid (show bD ≠ bE from by have h_ := (Array.getElem?_eq_some_iff.1 BKD.out).1; omega)
    rw [← hbE] at n_BKE ⊢
    clear hbE HB BKD
    generalize World.alloc _ _ = w13 at n_HB n_BKD n_BKE ⊢
    have HB := n_HB
    have BKD := n_BKD
    have BKE := n_BKE
    clear n_HB n_BKD n_BKE
    have cD0 : w13.cell? ⟨bD, 0, none⟩ = some (.int .i64 d.t) := blk_cell BKD.out 0
    have cD1 : w13.cell? ⟨bD, 1, none⟩ = some (.int .i64 d.n) := blk_cell BKD.out 1
    have cD2 : w13.cell? ⟨bD, 2, none⟩ = some (.int .i64 d.e) := blk_cell BKD.out 2
    have cD3 : w13.cell? ⟨bD, 3, none⟩ = some (.int .i64 d.s) := blk_cell BKD.out 3
    have cD4 : w13.cell? ⟨bD, 4, none⟩ = some (.int .i64 d.w) := blk_cell BKD.out 4
    have cD5 : w13.cell? ⟨bD, 5, none⟩ = some (.int .i64 d.b) := blk_cell BKD.out 5
    go_wp2_with fail
    refine (rollWordS d s HSZ.out _).mono ?_
    rintro e w14 ⟨rfl, hb⟩
    have n_HB := Go.Lib.hid (below_then HB.out HB.out.size hb)
    have n_BKD := Go.Lib.hid (blk_below BKD.out hb)
    have n_BKE := Go.Lib.hid (blk_below BKE.out hb)
    clear HB BKD BKE
    have HB := n_HB
    have BKD := n_BKD
    have BKE := n_BKE
    clear n_HB n_BKD n_BKE
    clear hb
    clear cD0 cD1 cD2 cD3 cD4 cD5
    rw [← HEN.out, ← HOK.out]
    go_upto_region 6 with fail
    have n_HB := Go.Lib.hid (HB.out.alloc HB.out.size (.cells (sx en) 25))
    have n_BKD := Go.Lib.hid (blk_alloc BKD.out (.cells (sx en) 25))
    have n_BKE := Go.Lib.hid (blk_alloc BKE.out (.cells (sx en) 25))
    have n_BKR := Go.Lib.hid (blk_new w14 (.cells (sx en) 25))
    obtain ⟨bR, hbR⟩ : ∃ b, b = w14.heap.size := ⟨_, rfl⟩
    have HFR := Go.Lib.hid (show w.heap.size ≤ bR from by rw [hbR]; exact HB.out.size)
    have NEDR := Go.Lib.hid (show bD ≠ bR from by have h_ := (Array.getElem?_eq_some_iff.1 BKD.out).1; omega)
    have NEER := Go.Lib.hid (show bE ≠ bR from by have h_ := (Array.getElem?_eq_some_iff.1 BKE.out).1; omega)
    rw [← hbR] at n_BKR ⊢
    clear hbR HB BKD BKE
    generalize World.alloc _ _ = w15 at n_HB n_BKD n_BKE n_BKR ⊢
    have HB := n_HB
    have BKD := n_BKD
    have BKE := n_BKE
    have BKR := n_BKR
    clear n_HB n_BKD n_BKE n_BKR
    have cE0 : w15.cell? ⟨bE, 0, none⟩ = some (.int .i64 en.t) := blk_cell BKE.out 0
    have cE1 : w15.cell? ⟨bE, 1, none⟩ = some (.int .i64 en.n) := blk_cell BKE.out 1
    have cE2 : w15.cell? ⟨bE, 2, none⟩ = some (.int .i64 en.e) := blk_cell BKE.out 2
    have cE3 : w15.cell? ⟨bE, 3, none⟩ = some (.int .i64 en.s) := blk_cell BKE.out 3
    have cE4 : w15.cell? ⟨bE, 4, none⟩ = some (.int .i64 en.w) := blk_cell BKE.out 4
    have cE5 : w15.cell? ⟨bE, 5, none⟩ = some (.int .i64 en.b) := blk_cell BKE.out 5
    have cR0 : w15.cell? ⟨bR, 0, none⟩ = some (.int .i64 en.t) := blk_cell BKR.out 0
    have cR1 : w15.cell? ⟨bR, 1, none⟩ = some (.int .i64 en.n) := blk_cell BKR.out 1
    have cR2 : w15.cell? ⟨bR, 2, none⟩ = some (.int .i64 en.e) := blk_cell BKR.out 2
    have cR3 : w15.cell? ⟨bR, 3, none⟩ = some (.int .i64 en.s) := blk_cell BKR.out 3
    have cR4 : w15.cell? ⟨bR, 4, none⟩ = some (.int .i64 en.w) := blk_cell BKR.out 4
    have cR5 : w15.cell? ⟨bR, 5, none⟩ = some (.int .i64 en.b) := blk_cell BKR.out 5
    go_upto_region 8 with fail
    clear cE0 cE1 cE2 cE3 cE4 cE5 cR0 cR1 cR2 cR3 cR4 cR5
    clear BKR
    cases ok with
    | false =>
      go_upto_region 35 with fail
      clear BKD
      clear BKE
      go_wp2_with fail
      refine (HDD.out _ HB.out).mono ?_
      rintro e w16 ⟨a0, a1, a2, a3, a4, a5, t, rfl, hz, hb⟩
      have n_HB := Go.Lib.hid (below_then HB.out HB.out.size hb)
      clear HB
      have HB := n_HB
      clear n_HB
      obtain ⟨q, hq⟩ : ∃ q : Die, q = ⟨a0, a1, a2, a3, a4, a5⟩ := ⟨_, rfl⟩
      rw [show DiF.six a0 a1 a2 a3 a4 a5 = sx q from by rw [hq]]
      clear hq hz hb a0 a1 a2 a3 a4 a5
      go_upto_region 36 with fail
      have n_HB := Go.Lib.hid (HB.out.alloc HB.out.size (.cells (sx q) 25))
      have n_BKQ := Go.Lib.hid (blk_new w16 (.cells (sx q) 25))
      obtain ⟨bQ, hbQ⟩ : ∃ b, b = w16.heap.size := ⟨_, rfl⟩
      have HFQ := Go.Lib.hid (show w.heap.size ≤ bQ from by rw [hbQ]; exact HB.out.size)
      rw [← hbQ] at n_BKQ ⊢
      clear hbQ HB 
      generalize World.alloc _ _ = w17 at n_HB n_BKQ ⊢
      have HB := n_HB
      have BKQ := n_BKQ
      clear n_HB n_BKQ
      obtain ⟨ra, hra⟩ : ∃ x, x = rdD q t := ⟨_, rfl⟩
      have HRA := Go.Lib.hid hra
      obtain ⟨rb, hrb⟩ : ∃ x, x = rdB q t := ⟨_, rfl⟩
      have HRB := Go.Lib.hid hrb
      clear hra hrb
      have cQ0 : w17.cell? ⟨bQ, 0, none⟩ = some (.int .i64 q.t) := blk_cell BKQ.out 0
      have cQ1 : w17.cell? ⟨bQ, 1, none⟩ = some (.int .i64 q.n) := blk_cell BKQ.out 1
      have cQ2 : w17.cell? ⟨bQ, 2, none⟩ = some (.int .i64 q.e) := blk_cell BKQ.out 2
      have cQ3 : w17.cell? ⟨bQ, 3, none⟩ = some (.int .i64 q.s) := blk_cell BKQ.out 3
      have cQ4 : w17.cell? ⟨bQ, 4, none⟩ = some (.int .i64 q.w) := blk_cell BKQ.out 4
      have cQ5 : w17.cell? ⟨bQ, 5, none⟩ = some (.int .i64 q.b) := blk_cell BKQ.out 5
      go_wp2_with fail
      refine (rollDieI q t _).mono ?_
      rintro e w18 ⟨rfl, hb⟩
      have n_HB := Go.Lib.hid (below_then HB.out HB.out.size hb)
      have n_BKQ := Go.Lib.hid (blk_below BKQ.out hb)
      clear HB BKQ
      have HB := n_HB
      have BKQ := n_BKQ
      clear n_HB n_BKQ
      clear hb
      clear cQ0 cQ1 cQ2 cQ3 cQ4 cQ5
      rw [← HRA.out, ← HRB.out]
      go_upto_region 37 with fail
      have n_HB := Go.Lib.hid (HB.out.alloc HB.out.size (.cells (sx ra) 25))
      have n_BKQ := Go.Lib.hid (blk_alloc BKQ.out (.cells (sx ra) 25))
      have n_BKA := Go.Lib.hid (blk_new w18 (.cells (sx ra) 25))
      obtain ⟨bA, hbA⟩ : ∃ b, b = w18.heap.size := ⟨_, rfl⟩
      have HFA := Go.Lib.hid (show w.heap.size ≤ bA from by rw [hbA]; exact HB.out.size)
      have NEQA := Go.Lib.hid (show bQ ≠ bA from by have h_ := (Array.getElem?_eq_some_iff.1 BKQ.out).1; omega)
      rw [← hbA] at n_BKA ⊢
      clear hbA HB BKQ
      generalize World.alloc _ _ = w19 at n_HB n_BKQ n_BKA ⊢
      have HB := n_HB
      have BKQ := n_BKQ
      have BKA := n_BKA
      clear n_HB n_BKQ n_BKA
      have cQ0 : w19.cell? ⟨bQ, 0, none⟩ = some (.int .i64 q.t) := blk_cell BKQ.out 0
      have cQ1 : w19.cell? ⟨bQ, 1, none⟩ = some (.int .i64 q.n) := blk_cell BKQ.out 1
      have cQ2 : w19.cell? ⟨bQ, 2, none⟩ = some (.int .i64 q.e) := blk_cell BKQ.out 2
      have cQ3 : w19.cell? ⟨bQ, 3, none⟩ = some (.int .i64 q.s) := blk_cell BKQ.out 3
      have cQ4 : w19.cell? ⟨bQ, 4, none⟩ = some (.int .i64 q.w) := blk_cell BKQ.out 4
      have cQ5 : w19.cell? ⟨bQ, 5, none⟩ = some (.int .i64 q.b) := blk_cell BKQ.out 5
      go_wp2_with fail
      refine (rollDieS q t _).mono ?_
      rintro e w20 ⟨rfl, hb⟩
      have n_HB := Go.Lib.hid (below_then HB.out HB.out.size hb)
      have n_BKQ := Go.Lib.hid (blk_below BKQ.out hb)
      have n_BKA := Go.Lib.hid (blk_below BKA.out hb)
      clear HB BKQ BKA
      have HB := n_HB
      have BKQ := n_BKQ
      have BKA := n_BKA
      clear n_HB n_BKQ n_BKA
      clear hb
      clear cQ0 cQ1 cQ2 cQ3 cQ4 cQ5
      rw [← HRA.out, ← HRB.out]
      go_upto_region 38 with fail
      have n_HB := Go.Lib.hid (HB.out.alloc HB.out.size (.cells (sx ra) 25))
      have n_BKQ := Go.Lib.hid (blk_alloc BKQ.out (.cells (sx ra) 25))
      have n_BKA := Go.Lib.hid (blk_alloc BKA.out (.cells (sx ra) 25))
      have n_BKB := Go.Lib.hid (blk_new w20 (.cells (sx ra) 25))
      obtain ⟨bB, hbB⟩ : ∃ b, b = w20.heap.size := ⟨_, rfl⟩
      have HFB := Go.Lib.hid (show w.heap.size ≤ bB from by rw [hbB]; exact HB.out.size)
      have NEQB := Go.Lib.hid (show bQ ≠ bB from by have h_ := (Array.getElem?_eq_some_iff.1 BKQ.out).1; omega)
      have NEAB := Go.Lib.hid (show bA ≠ bB from by have h_ := (Array.getElem?_eq_some_iff.1 BKA.out).1; omega)
      rw [← hbB] at n_BKB ⊢
      clear hbB HB BKQ BKA
      generalize World.alloc _ _ = w21 at n_HB n_BKQ n_BKA n_BKB ⊢
      have HB := n_HB
      have BKQ := n_BKQ
      have BKA := n_BKA
      have BKB := n_BKB
      clear n_HB n_BKQ n_BKA n_BKB
      go_wp2_with fail
      refine (HDT.out _ HB.out).mono ?_
      rintro e w22 ⟨a0, a1, a2, a3, a4, a5, k, rfl, hb⟩
      have n_HB := Go.Lib.hid (below_then HB.out HB.out.size hb)
      have n_BKQ := Go.Lib.hid (blk_below BKQ.out hb)
      have n_BKA := Go.Lib.hid (blk_below BKA.out hb)
      have n_BKB := Go.Lib.hid (blk_below BKB.out hb)
      clear HB BKQ BKA BKB
      have HB := n_HB
      have BKQ := n_BKQ
      have BKA := n_BKA
      have BKB := n_BKB
      clear n_HB n_BKQ n_BKA n_BKB
      obtain ⟨f, hf⟩ : ∃ f : Die, f = ⟨a0, a1, a2, a3, a4, a5⟩ := ⟨_, rfl⟩
      rw [show DiF.six a0 a1 a2 a3 a4 a5 = sx f from by rw [hf]]
      clear hf hb a0 a1 a2 a3 a4 a5
      go_upto_region 39 with fail
      have n_HB := Go.Lib.hid (HB.out.alloc HB.out.size (.cells (sx f) 25))
      have n_BKQ := Go.Lib.hid (blk_alloc BKQ.out (.cells (sx f) 25))
      have n_BKA := Go.Lib.hid (blk_alloc BKA.out (.cells (sx f) 25))
      have n_BKB := Go.Lib.hid (blk_alloc BKB.out (.cells (sx f) 25))
      have n_BKF := Go.Lib.hid (blk_new w22 (.cells (sx f) 25))
      obtain ⟨bF, hbF⟩ : ∃ b, b = w22.heap.size := ⟨_, rfl⟩
      have HFF := Go.Lib.hid (show w.heap.size ≤ bF from by rw [hbF]; exact HB.out.size)
      have NEQF := Go.Lib.hid (show bQ ≠ bF from by have h_ := (Array.getElem?_eq_some_iff.1 BKQ.out).1; omega)
      have NEAF := Go.Lib.hid (show bA ≠ bF from by have h_ := (Array.getElem?_eq_some_iff.1 BKA.out).1; omega)
      have NEBF := Go.Lib.hid (show bB ≠ bF from by have h_ := (Array.getElem?_eq_some_iff.1 BKB.out).1; omega)
      rw [← hbF] at n_BKF ⊢
      clear hbF HB BKQ BKA BKB
      generalize World.alloc _ _ = w23 at n_HB n_BKQ n_BKA n_BKB n_BKF ⊢
      have HB := n_HB
      have BKQ := n_BKQ
      have BKA := n_BKA
      have BKB := n_BKB
      have BKF := n_BKF
      clear n_HB n_BKQ n_BKA n_BKB n_BKF
      obtain ⟨tc, htc⟩ : ∃ x, x = tdD f k := ⟨_, rfl⟩
      have HTC := Go.Lib.hid htc
      obtain ⟨tb, htb⟩ : ∃ x, x = tdB f k := ⟨_, rfl⟩
      have HTB := Go.Lib.hid htb.symm
      have HTB2 := Go.Lib.hid htb
      clear htc htb
      have cF0 : w23.cell? ⟨bF, 0, none⟩ = some (.int .i64 f.t) := blk_cell BKF.out 0
      have cF1 : w23.cell? ⟨bF, 1, none⟩ = some (.int .i64 f.n) := blk_cell BKF.out 1
      have cF2 : w23.cell? ⟨bF, 2, none⟩ = some (.int .i64 f.e) := blk_cell BKF.out 2
      have cF3 : w23.cell? ⟨bF, 3, none⟩ = some (.int .i64 f.s) := blk_cell BKF.out 3
      have cF4 : w23.cell? ⟨bF, 4, none⟩ = some (.int .i64 f.w) := blk_cell BKF.out 4
      have cF5 : w23.cell? ⟨bF, 5, none⟩ = some (.int .i64 f.b) := blk_cell BKF.out 5
      go_wp2_with fail
      refine (turnDieI f k _).mono ?_
      rintro e w24 ⟨rfl, hb⟩
      have n_HB := Go.Lib.hid (below_then HB.out HB.out.size hb)
      have n_BKQ := Go.Lib.hid (blk_below BKQ.out hb)
      have n_BKA := Go.Lib.hid (blk_below BKA.out hb)
      have n_BKB := Go.Lib.hid (blk_below BKB.out hb)
      have n_BKF := Go.Lib.hid (blk_below BKF.out hb)
      clear HB BKQ BKA BKB BKF
      have HB := n_HB
      have BKQ := n_BKQ
      have BKA := n_BKA
      have BKB := n_BKB
      have BKF := n_BKF
      clear n_HB n_BKQ n_BKA n_BKB n_BKF
      clear hb
      clear cF0 cF1 cF2 cF3 cF4 cF5
      rw [← HTC.out, ← HTB2.out]
      go_upto_region 40 with fail
      have n_HB := Go.Lib.hid (HB.out.alloc HB.out.size (.cells (sx tc) 25))
      have n_BKQ := Go.Lib.hid (blk_alloc BKQ.out (.cells (sx tc) 25))
      have n_BKA := Go.Lib.hid (blk_alloc BKA.out (.cells (sx tc) 25))
      have n_BKB := Go.Lib.hid (blk_alloc BKB.out (.cells (sx tc) 25))
      have n_BKF := Go.Lib.hid (blk_alloc BKF.out (.cells (sx tc) 25))
      have n_BKC := Go.Lib.hid (blk_new w24 (.cells (sx tc) 25))
      obtain ⟨bC, hbC⟩ : ∃ b, b = w24.heap.size := ⟨_, rfl⟩
      have HFC := Go.Lib.hid (show w.heap.size ≤ bC from by rw [hbC]; exact HB.out.size)
      have NEQC := Go.Lib.hid (show bQ ≠ bC from by have h_ := (Array.getElem?_eq_some_iff.1 BKQ.out).1; omega)
      have NEAC := Go.Lib.hid (show bA ≠ bC from by have h_ := (Array.getElem?_eq_some_iff.1 BKA.out).1; omega)
      have NEBC := Go.Lib.hid (show bB ≠ bC from by have h_ := (Array.getElem?_eq_some_iff.1 BKB.out).1; omega)
      have NEFC := Go.Lib.hid (show bF ≠ bC from by have h_ := (Array.getElem?_eq_some_iff.1 BKF.out).1; omega)
      rw [← hbC] at n_BKC ⊢
      clear hbC HB BKQ BKA BKB BKF
      generalize World.alloc _ _ = w25 at n_HB n_BKQ n_BKA n_BKB n_BKF n_BKC ⊢
      have HB := n_HB
      have BKQ := n_BKQ
      have BKA := n_BKA
      have BKB := n_BKB
      have BKF := n_BKF
      have BKC := n_BKC
      clear n_HB n_BKQ n_BKA n_BKB n_BKF n_BKC
      have cF0 : w25.cell? ⟨bF, 0, none⟩ = some (.int .i64 f.t) := blk_cell BKF.out 0
      have cF1 : w25.cell? ⟨bF, 1, none⟩ = some (.int .i64 f.n) := blk_cell BKF.out 1
      have cF2 : w25.cell? ⟨bF, 2, none⟩ = some (.int .i64 f.e) := blk_cell BKF.out 2
      have cF3 : w25.cell? ⟨bF, 3, none⟩ = some (.int .i64 f.s) := blk_cell BKF.out 3
      have cF4 : w25.cell? ⟨bF, 4, none⟩ = some (.int .i64 f.w) := blk_cell BKF.out 4
      have cF5 : w25.cell? ⟨bF, 5, none⟩ = some (.int .i64 f.b) := blk_cell BKF.out 5
      go_wp2_with fail
      refine (turnDieS f k _).mono ?_
      rintro e w26 ⟨rfl, hb⟩
      have n_HB := Go.Lib.hid (below_then HB.out HB.out.size hb)
      have n_BKQ := Go.Lib.hid (blk_below BKQ.out hb)
      have n_BKA := Go.Lib.hid (blk_below BKA.out hb)
      have n_BKB := Go.Lib.hid (blk_below BKB.out hb)
      have n_BKF := Go.Lib.hid (blk_below BKF.out hb)
      have n_BKC := Go.Lib.hid (blk_below BKC.out hb)
      clear HB BKQ BKA BKB BKF BKC
      have HB := n_HB
      have BKQ := n_BKQ
      have BKA := n_BKA
      have BKB := n_BKB
      have BKF := n_BKF
      have BKC := n_BKC
      clear n_HB n_BKQ n_BKA n_BKB n_BKF n_BKC
      clear hb
      clear cF0 cF1 cF2 cF3 cF4 cF5
      rw [← HTC.out, ← HTB2.out]
      go_upto_region 41 with fail
      have n_HB := Go.Lib.hid (HB.out.alloc HB.out.size (.cells (sx tc) 25))
      have n_BKQ := Go.Lib.hid (blk_alloc BKQ.out (.cells (sx tc) 25))
      have n_BKA := Go.Lib.hid (blk_alloc BKA.out (.cells (sx tc) 25))
      have n_BKB := Go.Lib.hid (blk_alloc BKB.out (.cells (sx tc) 25))
      have n_BKF := Go.Lib.hid (blk_alloc BKF.out (.cells (sx tc) 25))
      have n_BKC := Go.Lib.hid (blk_alloc BKC.out (.cells (sx tc) 25))
      have n_BKM := Go.Lib.hid (blk_new w26 (.cells (sx tc) 25))
      obtain ⟨bM, hbM⟩ : ∃ b, b = w26.heap.size := ⟨_, rfl⟩
      have HFM := Go.Lib.hid (show w.heap.size ≤ bM from by rw [hbM]; exact HB.out.size)
      have NEQM := Go.Lib.hid (show bQ ≠ bM from by have h_ := (Array.getElem?_eq_some_iff.1 BKQ.out).1; omega)
      have NEAM := Go.Lib.hid (show bA ≠ bM from by have h_ := (Array.getElem?_eq_some_iff.1 BKA.out).1; omega)
      have NEBM := Go.Lib.hid (show bB ≠ bM from by have h_ := (Array.getElem?_eq_some_iff.1 BKB.out).1; omega)
      have NEFM := Go.Lib.hid (show bF ≠ bM from by have h_ := (Array.getElem?_eq_some_iff.1 BKF.out).1; omega)
      have NECM := Go.Lib.hid (show bC ≠ bM from by have h_ := (Array.getElem?_eq_some_iff.1 BKC.out).1; omega)
      rw [← hbM] at n_BKM ⊢
      clear hbM HB BKQ BKA BKB BKF BKC
      generalize World.alloc _ _ = w27 at n_HB n_BKQ n_BKA n_BKB n_BKF n_BKC n_BKM ⊢
      have HB := n_HB
      have BKQ := n_BKQ
      have BKA := n_BKA
      have BKB := n_BKB
      have BKF := n_BKF
      have BKC := n_BKC
      have BKM := n_BKM
      clear n_HB n_BKQ n_BKA n_BKB n_BKF n_BKC n_BKM
      have cA0 : w27.cell? ⟨bA, 0, none⟩ = some (.int .i64 ra.t) := blk_cell BKA.out 0
      have cA1 : w27.cell? ⟨bA, 1, none⟩ = some (.int .i64 ra.n) := blk_cell BKA.out 1
      have cA2 : w27.cell? ⟨bA, 2, none⟩ = some (.int .i64 ra.e) := blk_cell BKA.out 2
      have cA3 : w27.cell? ⟨bA, 3, none⟩ = some (.int .i64 ra.s) := blk_cell BKA.out 3
      have cA4 : w27.cell? ⟨bA, 4, none⟩ = some (.int .i64 ra.w) := blk_cell BKA.out 4
      have cA5 : w27.cell? ⟨bA, 5, none⟩ = some (.int .i64 ra.b) := blk_cell BKA.out 5
      have cB0 : w27.cell? ⟨bB, 0, none⟩ = some (.int .i64 ra.t) := blk_cell BKB.out 0
      have cB1 : w27.cell? ⟨bB, 1, none⟩ = some (.int .i64 ra.n) := blk_cell BKB.out 1
      have cB2 : w27.cell? ⟨bB, 2, none⟩ = some (.int .i64 ra.e) := blk_cell BKB.out 2
      have cB3 : w27.cell? ⟨bB, 3, none⟩ = some (.int .i64 ra.s) := blk_cell BKB.out 3
      have cB4 : w27.cell? ⟨bB, 4, none⟩ = some (.int .i64 ra.w) := blk_cell BKB.out 4
      have cB5 : w27.cell? ⟨bB, 5, none⟩ = some (.int .i64 ra.b) := blk_cell BKB.out 5
      have cC0 : w27.cell? ⟨bC, 0, none⟩ = some (.int .i64 tc.t) := blk_cell BKC.out 0
      have cC1 : w27.cell? ⟨bC, 1, none⟩ = some (.int .i64 tc.n) := blk_cell BKC.out 1
      have cC2 : w27.cell? ⟨bC, 2, none⟩ = some (.int .i64 tc.e) := blk_cell BKC.out 2
      have cC3 : w27.cell? ⟨bC, 3, none⟩ = some (.int .i64 tc.s) := blk_cell BKC.out 3
      have cC4 : w27.cell? ⟨bC, 4, none⟩ = some (.int .i64 tc.w) := blk_cell BKC.out 4
      have cC5 : w27.cell? ⟨bC, 5, none⟩ = some (.int .i64 tc.b) := blk_cell BKC.out 5
      have cM0 : w27.cell? ⟨bM, 0, none⟩ = some (.int .i64 tc.t) := blk_cell BKM.out 0
      have cM1 : w27.cell? ⟨bM, 1, none⟩ = some (.int .i64 tc.n) := blk_cell BKM.out 1
      have cM2 : w27.cell? ⟨bM, 2, none⟩ = some (.int .i64 tc.e) := blk_cell BKM.out 2
      have cM3 : w27.cell? ⟨bM, 3, none⟩ = some (.int .i64 tc.s) := blk_cell BKM.out 3
      have cM4 : w27.cell? ⟨bM, 4, none⟩ = some (.int .i64 tc.w) := blk_cell BKM.out 4
      have cM5 : w27.cell? ⟨bM, 5, none⟩ = some (.int .i64 tc.b) := blk_cell BKM.out 5
      go_upto_region 43 with fail
      clear cA0 cA1 cA2 cA3 cA4 cA5 cB0 cB1 cB2 cB3 cB4 cB5 cC0 cC1 cC2 cC3 cC4 cC5 cM0 cM1 cM2 cM3 cM4 cM5
      clear BKB
      clear BKM
      cases rb with
      | true =>
        have hrn := rn_ok HRB.out.symm
        have HRN := Go.Lib.hid hrn
        clear hrn
        have cA0 : w27.cell? ⟨bA, 0, none⟩ = some (.int .i64 ra.t) := blk_cell BKA.out 0
        have cA1 : w27.cell? ⟨bA, 1, none⟩ = some (.int .i64 ra.n) := blk_cell BKA.out 1
        have cA2 : w27.cell? ⟨bA, 2, none⟩ = some (.int .i64 ra.e) := blk_cell BKA.out 2
        have cA3 : w27.cell? ⟨bA, 3, none⟩ = some (.int .i64 ra.s) := blk_cell BKA.out 3
        have cA4 : w27.cell? ⟨bA, 4, none⟩ = some (.int .i64 ra.w) := blk_cell BKA.out 4
        have cA5 : w27.cell? ⟨bA, 5, none⟩ = some (.int .i64 ra.b) := blk_cell BKA.out 5
        go_upto_region 44 with fail
        go_upto_region 45 with fail
        have n_HB := Go.Lib.hid (HB.out.alloc HB.out.size (.cells (sx ra) 25))
        have n_BKQ := Go.Lib.hid (blk_alloc BKQ.out (.cells (sx ra) 25))
        have n_BKA := Go.Lib.hid (blk_alloc BKA.out (.cells (sx ra) 25))
        have n_BKF := Go.Lib.hid (blk_alloc BKF.out (.cells (sx ra) 25))
        have n_BKC := Go.Lib.hid (blk_alloc BKC.out (.cells (sx ra) 25))
        have n_BKN := Go.Lib.hid (blk_new w27 (.cells (sx ra) 25))
        obtain ⟨bN, hbN⟩ : ∃ b, b = w27.heap.size := ⟨_, rfl⟩
        have HFN := Go.Lib.hid (show w.heap.size ≤ bN from by rw [hbN]; exact HB.out.size)
        have NEQN := Go.Lib.hid (show bQ ≠ bN from by have h_ := (Array.getElem?_eq_some_iff.1 BKQ.out).1; omega)
        have NEAN := Go.Lib.hid (show bA ≠ bN from by have h_ := (Array.getElem?_eq_some_iff.1 BKA.out).1; omega)
        have NEFN := Go.Lib.hid (show bF ≠ bN from by have h_ := (Array.getElem?_eq_some_iff.1 BKF.out).1; omega)
        have NECN := Go.Lib.hid (show bC ≠ bN from by have h_ := (Array.getElem?_eq_some_iff.1 BKC.out).1; omega)
        rw [← hbN] at n_BKN ⊢
        clear hbN HB BKQ BKA BKF BKC
        generalize World.alloc _ _ = w28 at n_HB n_BKQ n_BKA n_BKF n_BKC n_BKN ⊢
        have HB := n_HB
        have BKQ := n_BKQ
        have BKA := n_BKA
        have BKF := n_BKF
        have BKC := n_BKC
        have BKN := n_BKN
        clear n_HB n_BKQ n_BKA n_BKF n_BKC n_BKN
        clear cA0 cA1 cA2 cA3 cA4 cA5
        clear BKA
        have HN1 := Go.Lib.hid (show ra = rn q t 1 from HRA.out)
        rw [HN1.out] at BKN
        go_wp2_with fail
        go_loopw [44] (fun v44 wr => ∃ i : Nat, v44 = .int .i64 (i : Int) ∧ i ≤ 3 ∧ Blk wr bN (rn q t (i + 1)) ∧ Blk wr bQ q ∧ Blk wr bF f ∧ Blk wr bC tc ∧ Below w.heap.size w wr) (fun v44 _ => 3 - (intOf v44).toNat)
        case atStart => exact ⟨0, rfl, by omega, BKN.out, BKQ.out, BKF.out, BKC.out, HB.out⟩
        case round =>
          clear HB BKN BKQ BKF BKC
          obtain ⟨i, rfl, hi, hN, hQ, hF, hC, hb⟩ := hrel
          have BKN := Go.Lib.hid hN
          have BKQ := Go.Lib.hid hQ
          have BKF := Go.Lib.hid hF
          have BKC := Go.Lib.hid hC
          have HB := Go.Lib.hid hb
          clear hN hQ hF hC hb
          obtain ⟨x, hx⟩ : ∃ x, x = rn q t (i + 1) := ⟨_, rfl⟩
          have HX := Go.Lib.hid hx
          rw [← hx] at BKN
          clear hx
          by_cases h3 : i < 3
          · have q1 : (i : Int) < 3 := by omega
            have q2 : IntKind.i64.wrap ((i : Int) + 1) = ((i + 1 : Nat) : Int) := by rw [IntKind.wrap_i64]; omega
            have HI := Go.Lib.hid h3
            clear hi h3
            have cN0 : wr.cell? ⟨bN, 0, none⟩ = some (.int .i64 x.t) := blk_cell BKN.out 0
            have cN1 : wr.cell? ⟨bN, 1, none⟩ = some (.int .i64 x.n) := blk_cell BKN.out 1
            have cN2 : wr.cell? ⟨bN, 2, none⟩ = some (.int .i64 x.e) := blk_cell BKN.out 2
            have cN3 : wr.cell? ⟨bN, 3, none⟩ = some (.int .i64 x.s) := blk_cell BKN.out 3
            have cN4 : wr.cell? ⟨bN, 4, none⟩ = some (.int .i64 x.w) := blk_cell BKN.out 4
            have cN5 : wr.cell? ⟨bN, 5, none⟩ = some (.int .i64 x.b) := blk_cell BKN.out 5
            go_wp2_with fail
            refine (rollDieI x t _).mono ?_
            rintro e w29 ⟨rfl, hb⟩
            have n_HB := Go.Lib.hid (below_then HB.out HB.out.size hb)
            have n_BKQ := Go.Lib.hid (blk_below BKQ.out hb)
            have n_BKF := Go.Lib.hid (blk_below BKF.out hb)
            have n_BKC := Go.Lib.hid (blk_below BKC.out hb)
            have n_BKN := Go.Lib.hid (blk_below BKN.out hb)
            clear HB BKQ BKF BKC BKN
            have HB := n_HB
            have BKQ := n_BKQ
            have BKF := n_BKF
            have BKC := n_BKC
            have BKN := n_BKN
            clear n_HB n_BKQ n_BKF n_BKC n_BKN
            clear hb
            clear cN0 cN1 cN2 cN3 cN4 cN5
            obtain ⟨y, hy⟩ : ∃ y, y = rn q t (i + 1 + 1) := ⟨_, rfl⟩
            have HY := Go.Lib.hid hy
            rw [show rdB x t = true from by rw [HX.out]; exact HRN.out.1 (i + 1), show rdD x t = y from by rw [HX.out, hy]; rfl]
            clear hy
            go_upto_region 49 with fail
            have n_HB := Go.Lib.hid (HB.out.alloc HB.out.size (.cells (sx y) 25))
            have n_BKQ := Go.Lib.hid (blk_alloc BKQ.out (.cells (sx y) 25))
            have n_BKF := Go.Lib.hid (blk_alloc BKF.out (.cells (sx y) 25))
            have n_BKC := Go.Lib.hid (blk_alloc BKC.out (.cells (sx y) 25))
            have n_BKN := Go.Lib.hid (blk_alloc BKN.out (.cells (sx y) 25))
            have n_BKY := Go.Lib.hid (blk_new w29 (.cells (sx y) 25))
            obtain ⟨bY, hbY⟩ : ∃ b, b = w29.heap.size := ⟨_, rfl⟩
            have HFY := Go.Lib.hid (show w.heap.size ≤ bY from by rw [hbY]; exact HB.out.size)
            have NEQY := Go.Lib.hid (show bQ ≠ bY from by have h_ := (Array.getElem?_eq_some_iff.1 BKQ.out).1; omega)
            have NEFY := Go.Lib.hid (show bF ≠ bY from by have h_ := (Array.getElem?_eq_some_iff.1 BKF.out).1; omega)
            have NECY := Go.Lib.hid (show bC ≠ bY from by have h_ := (Array.getElem?_eq_some_iff.1 BKC.out).1; omega)
            have NENY := Go.Lib.hid (show bN ≠ bY from by have h_ := (Array.getElem?_eq_some_iff.1 BKN.out).1; omega)
            rw [← hbY] at n_BKY ⊢
            clear hbY HB BKQ BKF BKC BKN
            generalize World.alloc _ _ = w30 at n_HB n_BKQ n_BKF n_BKC n_BKN n_BKY ⊢
            have HB := n_HB
            have BKQ := n_BKQ
            have BKF := n_BKF
            have BKC := n_BKC
            have BKN := n_BKN
            have BKY := n_BKY
            clear n_HB n_BKQ n_BKF n_BKC n_BKN n_BKY
            have cY0 : w30.cell? ⟨bY, 0, none⟩ = some (.int .i64 y.t) := blk_cell BKY.out 0
            have cY1 : w30.cell? ⟨bY, 1, none⟩ = some (.int .i64 y.n) := blk_cell BKY.out 1
            have cY2 : w30.cell? ⟨bY, 2, none⟩ = some (.int .i64 y.e) := blk_cell BKY.out 2
            have cY3 : w30.cell? ⟨bY, 3, none⟩ = some (.int .i64 y.s) := blk_cell BKY.out 3
            have cY4 : w30.cell? ⟨bY, 4, none⟩ = some (.int .i64 y.w) := blk_cell BKY.out 4
            have cY5 : w30.cell? ⟨bY, 5, none⟩ = some (.int .i64 y.b) := blk_cell BKY.out 5
            have cN0 : w30.cell? ⟨bN, 0, none⟩ = some (.int .i64 x.t) := blk_cell BKN.out 0
            have cN1 : w30.cell? ⟨bN, 1, none⟩ = some (.int .i64 x.n) := blk_cell BKN.out 1
            have cN2 : w30.cell? ⟨bN, 2, none⟩ = some (.int .i64 x.e) := blk_cell BKN.out 2
            have cN3 : w30.cell? ⟨bN, 3, none⟩ = some (.int .i64 x.s) := blk_cell BKN.out 3
            have cN4 : w30.cell? ⟨bN, 4, none⟩ = some (.int .i64 x.w) := blk_cell BKN.out 4
            have cN5 : w30.cell? ⟨bN, 5, none⟩ = some (.int .i64 x.b) := blk_cell BKN.out 5
            have fN0 := blk_frozen BKN.out 0
            have fN1 := blk_frozen BKN.out 1
            have fN2 := blk_frozen BKN.out 2
            have fN3 := blk_frozen BKN.out 3
            have fN4 := blk_frozen BKN.out 4
            have fN5 := blk_frozen BKN.out 5
            go_wp2_with fail
            exact ⟨⟨i + 1, by rw [Int.natCast_add]; rfl, HI.out, by rw [← HY.out]; exact Draw.put6_blk BKN.out y.t y.n y.e y.s y.w y.b, put6_far BKQ.out NEQN.out _ _ _ _ _ _, put6_far BKF.out NEFN.out _ _ _ _ _ _, put6_far BKC.out NECN.out _ _ _ _ _ _, Draw.put6_below HB.out HFN.out y.t y.n y.e y.s y.w y.b⟩, by have h_ := HI.out; simp [intOf]; omega⟩
          · obtain rfl : i = 3 := by omega
            clear hi h3
            have hxq : x = q := HX.out.trans HRN.out.2
            subst hxq
            have cN0 : wr.cell? ⟨bN, 0, none⟩ = some (.int .i64 x.t) := blk_cell BKN.out 0
            have cN1 : wr.cell? ⟨bN, 1, none⟩ = some (.int .i64 x.n) := blk_cell BKN.out 1
            have cN2 : wr.cell? ⟨bN, 2, none⟩ = some (.int .i64 x.e) := blk_cell BKN.out 2
            have cN3 : wr.cell? ⟨bN, 3, none⟩ = some (.int .i64 x.s) := blk_cell BKN.out 3
            have cN4 : wr.cell? ⟨bN, 4, none⟩ = some (.int .i64 x.w) := blk_cell BKN.out 4
            have cN5 : wr.cell? ⟨bN, 5, none⟩ = some (.int .i64 x.b) := blk_cell BKN.out 5
            have cQ0 : wr.cell? ⟨bQ, 0, none⟩ = some (.int .i64 x.t) := blk_cell BKQ.out 0
            have cQ1 : wr.cell? ⟨bQ, 1, none⟩ = some (.int .i64 x.n) := blk_cell BKQ.out 1
            have cQ2 : wr.cell? ⟨bQ, 2, none⟩ = some (.int .i64 x.e) := blk_cell BKQ.out 2
            have cQ3 : wr.cell? ⟨bQ, 3, none⟩ = some (.int .i64 x.s) := blk_cell BKQ.out 3
            have cQ4 : wr.cell? ⟨bQ, 4, none⟩ = some (.int .i64 x.w) := blk_cell BKQ.out 4
            have cQ5 : wr.cell? ⟨bQ, 5, none⟩ = some (.int .i64 x.b) := blk_cell BKQ.out 5
            go_upto_region 54 with fail
            clear cN0 cN1 cN2 cN3 cN4 cN5 cQ0 cQ1 cQ2 cQ3 cQ4 cQ5
            clear BKN
            cases tb with
            | true =>
              obtain ⟨m, hm, hm1, hm2, hm3, hm4⟩ := turn_home HTB.out
              rw [← HTC.out] at hm1 hm2 hm3 hm4
              have hm5 : IntKind.i64.wrap (4 - k) = wrap64 (4 - k) := i64_w _
              have cC0 : wr.cell? ⟨bC, 0, none⟩ = some (.int .i64 tc.t) := blk_cell BKC.out 0
              have cC1 : wr.cell? ⟨bC, 1, none⟩ = some (.int .i64 tc.n) := blk_cell BKC.out 1
              have cC2 : wr.cell? ⟨bC, 2, none⟩ = some (.int .i64 tc.e) := blk_cell BKC.out 2
              have cC3 : wr.cell? ⟨bC, 3, none⟩ = some (.int .i64 tc.s) := blk_cell BKC.out 3
              have cC4 : wr.cell? ⟨bC, 4, none⟩ = some (.int .i64 tc.w) := blk_cell BKC.out 4
              have cC5 : wr.cell? ⟨bC, 5, none⟩ = some (.int .i64 tc.b) := blk_cell BKC.out 5
              go_wp2_with fail
              refine (turnDieI tc m _).mono ?_
              rintro e w31 ⟨rfl, hb⟩
              have n_HB := Go.Lib.hid (below_then HB.out HB.out.size hb)
              have n_BKQ := Go.Lib.hid (blk_below BKQ.out hb)
              have n_BKF := Go.Lib.hid (blk_below BKF.out hb)
              have n_BKC := Go.Lib.hid (blk_below BKC.out hb)
              clear HB BKQ BKF BKC
              have HB := n_HB
              have BKQ := n_BKQ
              have BKF := n_BKF
              have BKC := n_BKC
              clear n_HB n_BKQ n_BKF n_BKC
              clear hb
              clear cC0 cC1 cC2 cC3 cC4 cC5
              rw [hm1, hm2]
              go_upto_region 56 with fail
              have n_HB := Go.Lib.hid (HB.out.alloc HB.out.size (.cells (sx f) 25))
              have n_BKQ := Go.Lib.hid (blk_alloc BKQ.out (.cells (sx f) 25))
              have n_BKF := Go.Lib.hid (blk_alloc BKF.out (.cells (sx f) 25))
              have n_BKC := Go.Lib.hid (blk_alloc BKC.out (.cells (sx f) 25))
              have n_BKK := Go.Lib.hid (blk_new w31 (.cells (sx f) 25))
              obtain ⟨bK, hbK⟩ : ∃ b, b = w31.heap.size := ⟨_, rfl⟩
              have HFK := Go.Lib.hid (show w.heap.size ≤ bK from by rw [hbK]; exact HB.out.size)
              have NEQK := Go.Lib.hid (show bQ ≠ bK from by have h_ := (Array.getElem?_eq_some_iff.1 BKQ.out).1; omega)
              have NEFK := Go.Lib.hid (show bF ≠ bK from by have h_ := (Array.getElem?_eq_some_iff.1 BKF.out).1; omega)
              have NECK := Go.Lib.hid (show bC ≠ bK from by have h_ := (Array.getElem?_eq_some_iff.1 BKC.out).1; omega)
              rw [← hbK] at n_BKK ⊢
              clear hbK HB BKQ BKF BKC
              generalize World.alloc _ _ = w32 at n_HB n_BKQ n_BKF n_BKC n_BKK ⊢
              have HB := n_HB
              have BKQ := n_BKQ
              have BKF := n_BKF
              have BKC := n_BKC
              have BKK := n_BKK
              clear n_HB n_BKQ n_BKF n_BKC n_BKK
              have cF0 : w32.cell? ⟨bF, 0, none⟩ = some (.int .i64 f.t) := blk_cell BKF.out 0
              have cF1 : w32.cell? ⟨bF, 1, none⟩ = some (.int .i64 f.n) := blk_cell BKF.out 1
              have cF2 : w32.cell? ⟨bF, 2, none⟩ = some (.int .i64 f.e) := blk_cell BKF.out 2
              have cF3 : w32.cell? ⟨bF, 3, none⟩ = some (.int .i64 f.s) := blk_cell BKF.out 3
              have cF4 : w32.cell? ⟨bF, 4, none⟩ = some (.int .i64 f.w) := blk_cell BKF.out 4
              have cF5 : w32.cell? ⟨bF, 5, none⟩ = some (.int .i64 f.b) := blk_cell BKF.out 5
              have cC0 : w32.cell? ⟨bC, 0, none⟩ = some (.int .i64 tc.t) := blk_cell BKC.out 0
              have cC1 : w32.cell? ⟨bC, 1, none⟩ = some (.int .i64 tc.n) := blk_cell BKC.out 1
              have cC2 : w32.cell? ⟨bC, 2, none⟩ = some (.int .i64 tc.e) := blk_cell BKC.out 2
              have cC3 : w32.cell? ⟨bC, 3, none⟩ = some (.int .i64 tc.s) := blk_cell BKC.out 3
              have cC4 : w32.cell? ⟨bC, 4, none⟩ = some (.int .i64 tc.w) := blk_cell BKC.out 4
              have cC5 : w32.cell? ⟨bC, 5, none⟩ = some (.int .i64 tc.b) := blk_cell BKC.out 5
              go_wp2_with fail
              refine (isTurned f tc _).mono ?_
              rintro e w33 ⟨rfl, hb⟩
              have n_HB := Go.Lib.hid (below_then HB.out HB.out.size hb)
              have n_BKQ := Go.Lib.hid (blk_below BKQ.out hb)
              have n_BKF := Go.Lib.hid (blk_below BKF.out hb)
              have n_BKC := Go.Lib.hid (blk_below BKC.out hb)
              have n_BKK := Go.Lib.hid (blk_below BKK.out hb)
              clear HB BKQ BKF BKC BKK
              have HB := n_HB
              have BKQ := n_BKQ
              have BKF := n_BKF
              have BKC := n_BKC
              have BKK := n_BKK
              clear n_HB n_BKQ n_BKF n_BKC n_BKK
              clear hb
              clear cF0 cF1 cF2 cF3 cF4 cF5 cC0 cC1 cC2 cC3 cC4 cC5
              rw [hm3, hm4]
              have cK0 : w33.cell? ⟨bK, 0, none⟩ = some (.int .i64 f.t) := blk_cell BKK.out 0
              have cK1 : w33.cell? ⟨bK, 1, none⟩ = some (.int .i64 f.n) := blk_cell BKK.out 1
              have cK2 : w33.cell? ⟨bK, 2, none⟩ = some (.int .i64 f.e) := blk_cell BKK.out 2
              have cK3 : w33.cell? ⟨bK, 3, none⟩ = some (.int .i64 f.s) := blk_cell BKK.out 3
              have cK4 : w33.cell? ⟨bK, 4, none⟩ = some (.int .i64 f.w) := blk_cell BKK.out 4
              have cK5 : w33.cell? ⟨bK, 5, none⟩ = some (.int .i64 f.b) := blk_cell BKK.out 5
              have cF0 : w33.cell? ⟨bF, 0, none⟩ = some (.int .i64 f.t) := blk_cell BKF.out 0
              have cF1 : w33.cell? ⟨bF, 1, none⟩ = some (.int .i64 f.n) := blk_cell BKF.out 1
              have cF2 : w33.cell? ⟨bF, 2, none⟩ = some (.int .i64 f.e) := blk_cell BKF.out 2
              have cF3 : w33.cell? ⟨bF, 3, none⟩ = some (.int .i64 f.s) := blk_cell BKF.out 3
              have cF4 : w33.cell? ⟨bF, 4, none⟩ = some (.int .i64 f.w) := blk_cell BKF.out 4
              have cF5 : w33.cell? ⟨bF, 5, none⟩ = some (.int .i64 f.b) := blk_cell BKF.out 5
              go_wp2_with fail
              go_ret
              exact ⟨rfl, HB.out⟩
            | false =>
              go_wp2_with fail
              go_ret
              exact ⟨rfl, HB.out⟩
      | false =>
        go_upto_region 54 with fail
        cases tb with
        | true =>
          obtain ⟨m, hm, hm1, hm2, hm3, hm4⟩ := turn_home HTB.out
          rw [← HTC.out] at hm1 hm2 hm3 hm4
          have hm5 : IntKind.i64.wrap (4 - k) = wrap64 (4 - k) := i64_w _
          have cC0 : w27.cell? ⟨bC, 0, none⟩ = some (.int .i64 tc.t) := blk_cell BKC.out 0
          have cC1 : w27.cell? ⟨bC, 1, none⟩ = some (.int .i64 tc.n) := blk_cell BKC.out 1
          have cC2 : w27.cell? ⟨bC, 2, none⟩ = some (.int .i64 tc.e) := blk_cell BKC.out 2
          have cC3 : w27.cell? ⟨bC, 3, none⟩ = some (.int .i64 tc.s) := blk_cell BKC.out 3
          have cC4 : w27.cell? ⟨bC, 4, none⟩ = some (.int .i64 tc.w) := blk_cell BKC.out 4
          have cC5 : w27.cell? ⟨bC, 5, none⟩ = some (.int .i64 tc.b) := blk_cell BKC.out 5
          go_wp2_with fail
          refine (turnDieI tc m _).mono ?_
          rintro e w34 ⟨rfl, hb⟩
          have n_HB := Go.Lib.hid (below_then HB.out HB.out.size hb)
          have n_BKQ := Go.Lib.hid (blk_below BKQ.out hb)
          have n_BKA := Go.Lib.hid (blk_below BKA.out hb)
          have n_BKF := Go.Lib.hid (blk_below BKF.out hb)
          have n_BKC := Go.Lib.hid (blk_below BKC.out hb)
          clear HB BKQ BKA BKF BKC
          have HB := n_HB
          have BKQ := n_BKQ
          have BKA := n_BKA
          have BKF := n_BKF
          have BKC := n_BKC
          clear n_HB n_BKQ n_BKA n_BKF n_BKC
          clear hb
          clear cC0 cC1 cC2 cC3 cC4 cC5
          rw [hm1, hm2]
          go_upto_region 56 with fail
          have n_HB := Go.Lib.hid (HB.out.alloc HB.out.size (.cells (sx f) 25))
          have n_BKQ := Go.Lib.hid (blk_alloc BKQ.out (.cells (sx f) 25))
          have n_BKA := Go.Lib.hid (blk_alloc BKA.out (.cells (sx f) 25))
          have n_BKF := Go.Lib.hid (blk_alloc BKF.out (.cells (sx f) 25))
          have n_BKC := Go.Lib.hid (blk_alloc BKC.out (.cells (sx f) 25))
          have n_BKK := Go.Lib.hid (blk_new w34 (.cells (sx f) 25))
          obtain ⟨bK, hbK⟩ : ∃ b, b = w34.heap.size := ⟨_, rfl⟩
          have HFK := Go.Lib.hid (show w.heap.size ≤ bK from by rw [hbK]; exact HB.out.size)
          have NEQK := Go.Lib.hid (show bQ ≠ bK from by have h_ := (Array.getElem?_eq_some_iff.1 BKQ.out).1; omega)
          have NEAK := Go.Lib.hid (show bA ≠ bK from by have h_ := (Array.getElem?_eq_some_iff.1 BKA.out).1; omega)
          have NEFK := Go.Lib.hid (show bF ≠ bK from by have h_ := (Array.getElem?_eq_some_iff.1 BKF.out).1; omega)
          have NECK := Go.Lib.hid (show bC ≠ bK from by have h_ := (Array.getElem?_eq_some_iff.1 BKC.out).1; omega)
          rw [← hbK] at n_BKK ⊢
          clear hbK HB BKQ BKA BKF BKC
          generalize World.alloc _ _ = w35 at n_HB n_BKQ n_BKA n_BKF n_BKC n_BKK ⊢
          have HB := n_HB
          have BKQ := n_BKQ
          have BKA := n_BKA
          have BKF := n_BKF
          have BKC := n_BKC
          have BKK := n_BKK
          clear n_HB n_BKQ n_BKA n_BKF n_BKC n_BKK
          have cF0 : w35.cell? ⟨bF, 0, none⟩ = some (.int .i64 f.t) := blk_cell BKF.out 0
          have cF1 : w35.cell? ⟨bF, 1, none⟩ = some (.int .i64 f.n) := blk_cell BKF.out 1
          have cF2 : w35.cell? ⟨bF, 2, none⟩ = some (.int .i64 f.e) := blk_cell BKF.out 2
          have cF3 : w35.cell? ⟨bF, 3, none⟩ = some (.int .i64 f.s) := blk_cell BKF.out 3
          have cF4 : w35.cell? ⟨bF, 4, none⟩ = some (.int .i64 f.w) := blk_cell BKF.out 4
          have cF5 : w35.cell? ⟨bF, 5, none⟩ = some (.int .i64 f.b) := blk_cell BKF.out 5
          have cC0 : w35.cell? ⟨bC, 0, none⟩ = some (.int .i64 tc.t) := blk_cell BKC.out 0
          have cC1 : w35.cell? ⟨bC, 1, none⟩ = some (.int .i64 tc.n) := blk_cell BKC.out 1
          have cC2 : w35.cell? ⟨bC, 2, none⟩ = some (.int .i64 tc.e) := blk_cell BKC.out 2
          have cC3 : w35.cell? ⟨bC, 3, none⟩ = some (.int .i64 tc.s) := blk_cell BKC.out 3
          have cC4 : w35.cell? ⟨bC, 4, none⟩ = some (.int .i64 tc.w) := blk_cell BKC.out 4
          have cC5 : w35.cell? ⟨bC, 5, none⟩ = some (.int .i64 tc.b) := blk_cell BKC.out 5
          go_wp2_with fail
          refine (isTurned f tc _).mono ?_
          rintro e w36 ⟨rfl, hb⟩
          have n_HB := Go.Lib.hid (below_then HB.out HB.out.size hb)
          have n_BKQ := Go.Lib.hid (blk_below BKQ.out hb)
          have n_BKA := Go.Lib.hid (blk_below BKA.out hb)
          have n_BKF := Go.Lib.hid (blk_below BKF.out hb)
          have n_BKC := Go.Lib.hid (blk_below BKC.out hb)
          have n_BKK := Go.Lib.hid (blk_below BKK.out hb)
          clear HB BKQ BKA BKF BKC BKK
          have HB := n_HB
          have BKQ := n_BKQ
          have BKA := n_BKA
          have BKF := n_BKF
          have BKC := n_BKC
          have BKK := n_BKK
          clear n_HB n_BKQ n_BKA n_BKF n_BKC n_BKK
          clear hb
          clear cF0 cF1 cF2 cF3 cF4 cF5 cC0 cC1 cC2 cC3 cC4 cC5
          rw [hm3, hm4]
          have cK0 : w36.cell? ⟨bK, 0, none⟩ = some (.int .i64 f.t) := blk_cell BKK.out 0
          have cK1 : w36.cell? ⟨bK, 1, none⟩ = some (.int .i64 f.n) := blk_cell BKK.out 1
          have cK2 : w36.cell? ⟨bK, 2, none⟩ = some (.int .i64 f.e) := blk_cell BKK.out 2
          have cK3 : w36.cell? ⟨bK, 3, none⟩ = some (.int .i64 f.s) := blk_cell BKK.out 3
          have cK4 : w36.cell? ⟨bK, 4, none⟩ = some (.int .i64 f.w) := blk_cell BKK.out 4
          have cK5 : w36.cell? ⟨bK, 5, none⟩ = some (.int .i64 f.b) := blk_cell BKK.out 5
          have cF0 : w36.cell? ⟨bF, 0, none⟩ = some (.int .i64 f.t) := blk_cell BKF.out 0
          have cF1 : w36.cell? ⟨bF, 1, none⟩ = some (.int .i64 f.n) := blk_cell BKF.out 1
          have cF2 : w36.cell? ⟨bF, 2, none⟩ = some (.int .i64 f.e) := blk_cell BKF.out 2
          have cF3 : w36.cell? ⟨bF, 3, none⟩ = some (.int .i64 f.s) := blk_cell BKF.out 3
          have cF4 : w36.cell? ⟨bF, 4, none⟩ = some (.int .i64 f.w) := blk_cell BKF.out 4
          have cF5 : w36.cell? ⟨bF, 5, none⟩ = some (.int .i64 f.b) := blk_cell BKF.out 5
          go_wp2_with fail
          go_ret
          exact ⟨rfl, HB.out⟩
        | false =>
          go_wp2_with fail
          go_ret
          exact ⟨rfl, HB.out⟩
    | true =>
      have hok := HOK.out.symm
      rw [rwB, Bool.and_eq_true] at hok
      obtain ⟨hgd, hgw⟩ := hok
      have HGD := Go.Lib.hid hgd
      have HGW := Go.Lib.hid hgw
      have HE := Go.Lib.hid (show en = rolled d (dirs s) from by rw [HEN.out, rwD, if_pos HOK.out.symm])
      clear hgd hgw
      have cD0 : w15.cell? ⟨bD, 0, none⟩ = some (.int .i64 d.t) := blk_cell BKD.out 0
      have cD1 : w15.cell? ⟨bD, 1, none⟩ = some (.int .i64 d.n) := blk_cell BKD.out 1
      have cD2 : w15.cell? ⟨bD, 2, none⟩ = some (.int .i64 d.e) := blk_cell BKD.out 2
      have cD3 : w15.cell? ⟨bD, 3, none⟩ = some (.int .i64 d.s) := blk_cell BKD.out 3
      have cD4 : w15.cell? ⟨bD, 4, none⟩ = some (.int .i64 d.w) := blk_cell BKD.out 4
      have cD5 : w15.cell? ⟨bD, 5, none⟩ = some (.int .i64 d.b) := blk_cell BKD.out 5
      go_upto_region 9 with fail
      go_upto_region 10 with fail
      have n_HB := Go.Lib.hid (HB.out.alloc HB.out.size (.cells (sx d) 25))
      have n_BKD := Go.Lib.hid (blk_alloc BKD.out (.cells (sx d) 25))
      have n_BKE := Go.Lib.hid (blk_alloc BKE.out (.cells (sx d) 25))
      have n_BKN := Go.Lib.hid (blk_new w15 (.cells (sx d) 25))
      obtain ⟨bN, hbN⟩ : ∃ b, b = w15.heap.size := ⟨_, rfl⟩
      have HFN := Go.Lib.hid (show w.heap.size ≤ bN from by rw [hbN]; exact HB.out.size)
      have NEDN := Go.Lib.hid (show bD ≠ bN from by have h_ := (Array.getElem?_eq_some_iff.1 BKD.out).1; omega)
      have NEEN := Go.Lib.hid (show bE ≠ bN from by have h_ := (Array.getElem?_eq_some_iff.1 BKE.out).1; omega)
      rw [← hbN] at n_BKN ⊢
      clear hbN HB BKD BKE
      generalize World.alloc _ _ = w37 at n_HB n_BKD n_BKE n_BKN ⊢
      have HB := n_HB
      have BKD := n_BKD
      have BKE := n_BKE
      have BKN := n_BKN
      clear n_HB n_BKD n_BKE n_BKN
      clear cD0 cD1 cD2 cD3 cD4 cD5
      go_wp2_with fail
      obtain ⟨It, hIt⟩ : ∃ k, k = w37.heap.size := ⟨_, rfl⟩
      have HIT := Go.Lib.hid (World.iter_heap w37 s 0)
      have HBI := Go.Lib.hid (show Below w.heap.size w (w37.iter s 0) from HB.out.alloc HB.out.size _)
      have n_BKD := Go.Lib.hid (show Blk (w37.iter s 0) bD d from blk_alloc BKD.out _)
      have n_BKE := Go.Lib.hid (show Blk (w37.iter s 0) bE en from blk_alloc BKE.out _)
      have n_BKN := Go.Lib.hid (show Blk (w37.iter s 0) bN d from blk_alloc BKN.out _)
      have HFI := Go.Lib.hid (show w.heap.size ≤ It ∧ bD ≠ It ∧ bE ≠ It ∧ bN ≠ It from by have h_ := HB.out.size; have h1_ := (Array.getElem?_eq_some_iff.1 BKD.out).1; have h2_ := (Array.getElem?_eq_some_iff.1 BKE.out).1; have h3_ := (Array.getElem?_eq_some_iff.1 BKN.out).1; omega)
      rw [← hIt] at HIT ⊢
      clear hIt HB BKD BKE BKN
      go_loopw [12] (fun v12 wr => ∃ (i : Nat) (x : Die), i ≤ s.size ∧ gd x = true ∧ rolled x ((dirs s).drop i) = rolled d (dirs s) ∧ wr.heap[It]? = some (.stringIter s i) ∧ Blk wr bN x ∧ Blk wr bD d ∧ Blk wr bE en ∧ Below w.heap.size w wr) (fun _ wr => s.size - wr.iterPos It)
      case atStart => exact ⟨0, d, Nat.zero_le _, HGD.out, rfl, HIT.out, n_BKN.out, n_BKD.out, n_BKE.out, HBI.out⟩
      case round =>
        clear HIT n_BKN n_BKD n_BKE HBI
        obtain ⟨i, x, hi, hgx, hro, hit, hN, hD, hE, hb⟩ := hrel
        by_cases hlt : i < s.size
        · obtain ⟨st1, st2, st3⟩ := Go.Proofs.YtfcifidjjbknaaaDoor.RollL.step HGW.out hlt hgx hro
          obtain ⟨ch, hnx⟩ : ∃ ch : Int, ∀ ty, (Instr.next (.pointer (some ⟨It, 0, none⟩)) true ty).run Tryd.prog wr = .ok (.tuple #[.bool true, .int .i64 (i : Int), .int .i32 ch]) (wr.iterAt It s (i + 1)) := ⟨_, fun ty => Go.Lib.run_next_ascii_at wr It s i ty hit hlt (ascii_at HGW.out hlt)⟩
          obtain ⟨p, hp⟩ : ∃ p, p = s.extract i (i + 1) := ⟨_, rfl⟩
          rw [← hp] at st1 st2 st3
          have hcut := fun W => cut1 s i hlt W
          rw [← hp] at hcut
          have ST := Go.Lib.hid (And.intro st1 (And.intro st2 st3))
          have HLT := Go.Lib.hid hlt
          have q2 : IntKind.i64.wrap ((i : Int) + 1) = (i : Int) + 1 := by rw [IntKind.wrap_i64]; have h_ := HSZ.out; omega
          have BKN := Go.Lib.hid (show Blk (wr.iterAt It s (i + 1)) bN x from (Go.Lib.iterAt_other wr It bN s (i + 1) HFI.out.2.2.2).trans hN)
          have BKD := Go.Lib.hid (show Blk (wr.iterAt It s (i + 1)) bD d from (Go.Lib.iterAt_other wr It bD s (i + 1) HFI.out.2.1).trans hD)
          have BKE := Go.Lib.hid (show Blk (wr.iterAt It s (i + 1)) bE en from (Go.Lib.iterAt_other wr It bE s (i + 1) HFI.out.2.2.1).trans hE)
          have HB := Go.Lib.hid (show Below w.heap.size w (wr.iterAt It s (i + 1)) from Go.Lib.below_iterAt hb HFI.out.1 s (i + 1))
          have HIT := Go.Lib.hid (Go.Lib.iterAt_heap wr It s i (i + 1) hit)
          have HPI := Go.Lib.hid (iter_pos hit)
          clear hi hgx hro hit hN hD hE hb hlt hp st1 st2 st3
          go_upto_region 13 with fail
          generalize World.iterAt _ _ _ _ = wi at BKN BKD BKE HB HIT ⊢
          obtain ⟨y, hy⟩ : ∃ y, y = rdD x p := ⟨_, rfl⟩
          have HY := Go.Lib.hid hy
          clear hy
          have HRD := Go.Lib.hid (show ∀ W : World, Calls Tryd.prog 8 #[.agg (sx x), .string p] W (fun e w' => e = .returned (.tuple #[.agg (sx y), .bool true]) ∧ Below W.heap.size W w') from fun W => by have h_ := rollDieI x p W; rw [ST.out.1, ← HY.out] at h_; exact h_)
          have HCUT := Go.Lib.hid hcut
          clear hcut hnx
          refine start_ (n := 13) (S := fun w' => True) (ds := []) #[false, false, false, false, false, false, false, false, false, false, false, false, false] (by kernel_rfl) rfl rfl trivial (fun hHeld => ?_)
          refine with_tabW rlw.tab13 rlw.bits13 (fun HT_ HW_ => ?_)
          have n_HB := Go.Lib.hid (below_drew HB.out)
          have n_BKN := Go.Lib.hid (blk_drew BKN.out)
          have n_BKD := Go.Lib.hid (blk_drew BKD.out)
          have n_BKE := Go.Lib.hid (blk_drew BKE.out)
          have n_HIT := Go.Lib.hid (blk_drew HIT.out)
          clear HB BKN BKD BKE HIT
          have HB := n_HB
          have BKN := n_BKN
          have BKD := n_BKD
          have BKE := n_BKE
          have HIT := n_HIT
          clear n_HB n_BKN n_BKD n_BKE n_HIT
          generalize World.drew _ = wj_ at HB BKN BKD BKE HIT hHeld ⊢
          refine pure_ (i := 1) (N := some 88) (v := ?_) (a' := ?_) #[false, true, false, false, false, false, false, false, false, false, false, false, false] rfl rfl (any_of HT_.out (by kernel_rfl)) (fun _ _ _ h => h) (Or.inl ⟨by rfl, ?_⟩) ?_ ?_
          rotate_left
          · intro w'
            go_simp
            with_reducible rfl
          rotate_left
          · simp only [Act.put, List.setIfInBounds_toArray, List.set_cons_zero, List.set_cons_succ, i64_w, i32_w]
            rfl
          refine pure_ (i := 2) (N := some 89) (v := ?_) (a' := ?_) #[false, true, true, false, false, false, false, false, false, false, false, false, false] rfl rfl (any_of HT_.out (by kernel_rfl)) (fun _ _ _ h => h) (Or.inl ⟨by rfl, ?_⟩) ?_ ?_
          rotate_left
          · intro w'
            go_simp
            with_reducible rfl
          rotate_left
          · simp only [Act.put, List.setIfInBounds_toArray, List.set_cons_zero, List.set_cons_succ, i64_w, i32_w]
            rfl
          refine pure_ (i := 3) (N := some 90) (v := ?_) (a' := ?_) #[false, true, true, true, false, false, false, false, false, false, false, false, false] rfl rfl (any_of HT_.out (by kernel_rfl)) (fun _ _ _ h => h) (Or.inl ⟨by rfl, ?_⟩) ?_ ?_
          rotate_left
          · intro w'
            go_simp
            with_reducible rfl
          rotate_left
          · simp only [Act.put, List.setIfInBounds_toArray, List.set_cons_zero, List.set_cons_succ, i64_w, i32_w]
            rfl
          refine inv_at [0, 4, 5, 6, 7, 8, 9, 10, 11, 12] (fun a0_ b a w' => ∃ (gY_ : Nat) (m10_ : Value), a = putSel a0_ b [(0, 87, .agg (sx x)), (4, 91, .int .i64 ((i : Int) + 1)), (5, 92, .string p), (6, 93, .tuple #[.agg (sx y), .bool true]), (7, 86, .tuple #[.agg (sx y), .bool true]), (8, 94, .agg (sx y)), (9, 95, .bool true), (10, 13, m10_), (12, 14, .bool true)] ∧ (Below w.heap.size w w') ∧ (Blk w' bN x) ∧ (Blk w' bD d) ∧ (Blk w' bE en) ∧ (w'.heap[It]? = some (.stringIter s (i + 1))) ∧ (b 10 = true → gY_ ≠ bN ∧ gY_ ≠ bD ∧ gY_ ≠ bE ∧ gY_ ≠ It ∧ w.heap.size ≤ gY_) ∧ (b 10 = true → b 11 = false → w'.heap[gY_]? = some (.cells #[.int .i64 0, .int .i64 0, .int .i64 0, .int .i64 0, .int .i64 0, .int .i64 0] 25 (0, 0))) ∧ (b 11 = true → Blk w' gY_ y) ∧ (b 10 = true → (m10_ : Value) = .pointer (some ⟨gY_, 0, none⟩))) HT_.out HW_.out (by kernel_rfl) (by kernel_rfl) ?_ ?_ ?_
          · exact ⟨0, .bool false, by simp only [putSel, Bool.false_eq_true, if_false], HB.out, BKN.out, BKD.out, BKE.out, HIT.out, fun h_ => absurd h_ (by decide), fun h_ => absurd h_ (by decide), fun h_ => absurd h_ (by decide), fun h_ => absurd h_ (by decide)⟩
          · skip
            clear BKD BKE BKN HB HIT
            refine steps_cons ?_ ?_
            · rintro b a w' ⟨gY_, m10_, ha, Q_HB, Q_BKN, Q_BKD, Q_BKE, Q_HIT, Q_SEP, Q_Z0, Q_BKY, Q_X10_⟩ hb_ hon hoff
              refine ⟨_, rfl, fun K hK => ?_⟩
              have e11 : a.tmps[11]? = some (.pointer (some ⟨bN, 0, none⟩)) := by rw [ha]; exact (putSel_off rfl).trans rfl
              replace ha := Aside0.mk ha
              have HB := Aside0.mk Q_HB
              have BKN := Aside0.mk Q_BKN
              have BKD := Aside0.mk Q_BKD
              have BKE := Aside0.mk Q_BKE
              have HIT := Aside0.mk Q_HIT
              have o0 : w'.cell? ⟨bN, 0, none⟩ = some (.int .i64 x.t) := blk_cell BKN.out 0
              have o1 : w'.cell? ⟨bN, 1, none⟩ = some (.int .i64 x.n) := blk_cell BKN.out 1
              have o2 : w'.cell? ⟨bN, 2, none⟩ = some (.int .i64 x.e) := blk_cell BKN.out 2
              have o3 : w'.cell? ⟨bN, 3, none⟩ = some (.int .i64 x.s) := blk_cell BKN.out 3
              have o4 : w'.cell? ⟨bN, 4, none⟩ = some (.int .i64 x.w) := blk_cell BKN.out 4
              have o5 : w'.cell? ⟨bN, 5, none⟩ = some (.int .i64 x.b) := blk_cell BKN.out 5
              refine value_ (w1 := w') (v := .agg (sx x)) (by rfl) rfl ?_ ?_
              · go_simp
                (try simp only [i64_w])
                try rfl
              refine hK.out _ _ ⟨gY_, m10_, (by rw [ha.out]; exact putSel_upk 0 hb_ rfl rfl rfl), Q_HB, Q_BKN, Q_BKD, Q_BKE, Q_HIT, Q_SEP, Q_Z0, fun h0_ => absurd ((hoff 11 (by kernel_rfl)).symm.trans h0_) (by decide), Q_X10_⟩
            refine steps_cons ?_ ?_
            · rintro b a w' ⟨gY_, m10_, ha, Q_HB, Q_BKN, Q_BKD, Q_BKE, Q_HIT, Q_SEP, Q_Z0, Q_BKY, Q_X10_⟩ hb_ hon hoff
              refine ⟨_, rfl, fun K hK => ?_⟩
              have e90 : a.tmps[90]? = some (.int .i64 (i : Int)) := by rw [ha]; exact (putSel_off rfl).trans rfl
              replace ha := Aside0.mk ha
              have HB := Aside0.mk Q_HB
              have BKN := Aside0.mk Q_BKN
              have BKD := Aside0.mk Q_BKD
              have BKE := Aside0.mk Q_BKE
              have HIT := Aside0.mk Q_HIT
              have q2_ := q2
              refine value_ (w1 := w') (v := .int .i64 ((i : Int) + 1)) (by rfl) rfl ?_ ?_
              · go_simp
                (try simp only [i64_w])
                try rfl
              refine hK.out _ _ ⟨gY_, m10_, (by rw [ha.out]; exact putSel_upk 1 hb_ rfl rfl rfl), Q_HB, Q_BKN, Q_BKD, Q_BKE, Q_HIT, Q_SEP, Q_Z0, fun h0_ => absurd ((hoff 11 (by kernel_rfl)).symm.trans h0_) (by decide), Q_X10_⟩
            refine steps_cons ?_ ?_
            · rintro b a w' ⟨gY_, m10_, ha, Q_HB, Q_BKN, Q_BKD, Q_BKE, Q_HIT, Q_SEP, Q_Z0, Q_BKY, Q_X10_⟩ hb_ hon hoff
              refine ⟨_, rfl, fun K hK => ?_⟩
              have e88 : a.tmps[88]? = some (.string s) := by rw [ha]; exact (putSel_off rfl).trans rfl
              have e89 : a.tmps[89]? = some (.int .i64 (i : Int)) := by rw [ha]; exact (putSel_off rfl).trans rfl
              have e91 : a.tmps[91]? = some (.int .i64 ((i : Int) + 1)) := by rw [ha]; exact putSel_on (e := (4, 91, .int .i64 ((i : Int) + 1))) 1 rfl rfl (hon 4 (by kernel_rfl)) rfl
              replace ha := Aside0.mk ha
              have HB := Aside0.mk Q_HB
              have BKN := Aside0.mk Q_BKN
              have BKD := Aside0.mk Q_BKD
              have BKE := Aside0.mk Q_BKE
              have HIT := Aside0.mk Q_HIT
              have hcut_ := HCUT.out w'
              refine value_ (w1 := w') (v := .string p) (by rfl) rfl ?_ ?_
              · go_simp
                (try simp only [i64_w])
                try rfl
              refine hK.out _ _ ⟨gY_, m10_, (by rw [ha.out]; exact putSel_upk 2 hb_ rfl rfl rfl), Q_HB, Q_BKN, Q_BKD, Q_BKE, Q_HIT, Q_SEP, Q_Z0, fun h0_ => absurd ((hoff 11 (by kernel_rfl)).symm.trans h0_) (by decide), Q_X10_⟩
            refine steps_cons ?_ ?_
            · rintro b a w' ⟨gY_, m10_, ha, Q_HB, Q_BKN, Q_BKD, Q_BKE, Q_HIT, Q_SEP, Q_Z0, Q_BKY, Q_X10_⟩ hb_ hon hoff
              refine ⟨_, rfl, fun K hK => ?_⟩
              have e87 : a.tmps[87]? = some (.agg (sx x)) := by rw [ha]; exact putSel_on (e := (0, 87, .agg (sx x))) 0 rfl rfl (hon 0 (by kernel_rfl)) rfl
              have e92 : a.tmps[92]? = some (.string p) := by rw [ha]; exact putSel_on (e := (5, 92, .string p)) 2 rfl rfl (hon 5 (by kernel_rfl)) rfl
              replace ha := Aside0.mk ha
              have HB := Aside0.mk Q_HB
              have BKN := Aside0.mk Q_BKN
              have BKD := Aside0.mk Q_BKD
              have BKE := Aside0.mk Q_BKE
              have HIT := Aside0.mk Q_HIT
              refine call_ 8 #[.agg (sx x), .string p] (by rfl) rfl ?_ ?_
              · go_simp
                (try rfl)
              with_reducible refine (HRD.out w').mono ?_
              rintro e' w1_ ⟨rfl, hb⟩
              refine ⟨_, rfl, ?_⟩
              refine hK.out _ _ ⟨gY_, m10_, (by rw [ha.out]; exact putSel_upk 3 hb_ rfl rfl rfl), below_then HB.out HB.out.size hb, blk_below BKN.out hb, blk_below BKD.out hb, blk_below BKE.out hb, blk_below HIT.out hb, Q_SEP, fun h0_ h1_ => blk_below (Q_Z0 h0_ h1_) hb, fun h0_ => absurd ((hoff 11 (by kernel_rfl)).symm.trans h0_) (by decide), Q_X10_⟩
            refine steps_cons ?_ ?_
            · rintro b a w' ⟨gY_, m10_, ha, Q_HB, Q_BKN, Q_BKD, Q_BKE, Q_HIT, Q_SEP, Q_Z0, Q_BKY, Q_X10_⟩ hb_ hon hoff
              refine ⟨_, rfl, fun K hK => ?_⟩
              have e93 : a.tmps[93]? = some (.tuple #[.agg (sx y), .bool true]) := by rw [ha]; exact putSel_on (e := (6, 93, .tuple #[.agg (sx y), .bool true])) 3 rfl rfl (hon 6 (by kernel_rfl)) rfl
              replace ha := Aside0.mk ha
              have HB := Aside0.mk Q_HB
              have BKN := Aside0.mk Q_BKN
              have BKD := Aside0.mk Q_BKD
              have BKE := Aside0.mk Q_BKE
              have HIT := Aside0.mk Q_HIT
              refine value_ (w1 := w') (v := .tuple #[.agg (sx y), .bool true]) (by rfl) rfl ?_ ?_
              · go_simp
                (try simp only [i64_w])
                try rfl
              refine hK.out _ _ ⟨gY_, m10_, (by rw [ha.out]; exact putSel_upk 4 hb_ rfl rfl rfl), Q_HB, Q_BKN, Q_BKD, Q_BKE, Q_HIT, Q_SEP, Q_Z0, fun h0_ => absurd ((hoff 11 (by kernel_rfl)).symm.trans h0_) (by decide), Q_X10_⟩
            refine steps_cons ?_ ?_
            · rintro b a w' ⟨gY_, m10_, ha, Q_HB, Q_BKN, Q_BKD, Q_BKE, Q_HIT, Q_SEP, Q_Z0, Q_BKY, Q_X10_⟩ hb_ hon hoff
              refine ⟨_, rfl, fun K hK => ?_⟩
              have e86 : a.tmps[86]? = some (.tuple #[.agg (sx y), .bool true]) := by rw [ha]; exact putSel_on (e := (7, 86, .tuple #[.agg (sx y), .bool true])) 4 rfl rfl (hon 7 (by kernel_rfl)) rfl
              replace ha := Aside0.mk ha
              have HB := Aside0.mk Q_HB
              have BKN := Aside0.mk Q_BKN
              have BKD := Aside0.mk Q_BKD
              have BKE := Aside0.mk Q_BKE
              have HIT := Aside0.mk Q_HIT
              refine value_ (w1 := w') (v := .agg (sx y)) (by rfl) rfl ?_ ?_
              · go_simp
                (try simp only [i64_w])
                try rfl
              refine hK.out _ _ ⟨gY_, m10_, (by rw [ha.out]; exact putSel_upk 5 hb_ rfl rfl rfl), Q_HB, Q_BKN, Q_BKD, Q_BKE, Q_HIT, Q_SEP, Q_Z0, fun h0_ => absurd ((hoff 11 (by kernel_rfl)).symm.trans h0_) (by decide), Q_X10_⟩
            refine steps_cons ?_ ?_
            · rintro b a w' ⟨gY_, m10_, ha, Q_HB, Q_BKN, Q_BKD, Q_BKE, Q_HIT, Q_SEP, Q_Z0, Q_BKY, Q_X10_⟩ hb_ hon hoff
              refine ⟨_, rfl, fun K hK => ?_⟩
              have e86 : a.tmps[86]? = some (.tuple #[.agg (sx y), .bool true]) := by rw [ha]; exact putSel_on (e := (7, 86, .tuple #[.agg (sx y), .bool true])) 4 rfl rfl (hon 7 (by kernel_rfl)) rfl
              replace ha := Aside0.mk ha
              have HB := Aside0.mk Q_HB
              have BKN := Aside0.mk Q_BKN
              have BKD := Aside0.mk Q_BKD
              have BKE := Aside0.mk Q_BKE
              have HIT := Aside0.mk Q_HIT
              refine value_ (w1 := w') (v := .bool true) (by rfl) rfl ?_ ?_
              · go_simp
                (try simp only [i64_w])
                try rfl
              refine hK.out _ _ ⟨gY_, m10_, (by rw [ha.out]; exact putSel_upk 6 hb_ rfl rfl rfl), Q_HB, Q_BKN, Q_BKD, Q_BKE, Q_HIT, Q_SEP, Q_Z0, Q_BKY, Q_X10_⟩
            refine steps_cons ?_ ?_
            · rintro b a w' ⟨gY_, m10_, ha, Q_HB, Q_BKN, Q_BKD, Q_BKE, Q_HIT, Q_SEP, Q_Z0, Q_BKY, Q_X10_⟩ hb_ hon hoff
              refine ⟨_, rfl, fun K hK => ?_⟩
              replace ha := Aside0.mk ha
              have HB := Aside0.mk Q_HB
              have BKN := Aside0.mk Q_BKN
              have BKD := Aside0.mk Q_BKD
              have BKE := Aside0.mk Q_BKE
              have HIT := Aside0.mk Q_HIT
              refine value_ (w1 := ?_) (v := ?_) (by rfl) rfl ?_ ?_
              rotate_left 2
              · go_simp
                constructor
                · rfl
                · rfl
              refine hK.out _ _ ⟨w'.heap.size, (.pointer (some ⟨w'.heap.size, 0, none⟩)), (by rw [ha.out]; exact putSel_upk 7 hb_ rfl rfl rfl), HB.out.alloc HB.out.size _, blk_alloc BKN.out _, blk_alloc BKD.out _, blk_alloc BKE.out _, blk_alloc HIT.out _, fun _ => ⟨Nat.ne_of_gt (blk_lt BKN.out), Nat.ne_of_gt (blk_lt BKD.out), Nat.ne_of_gt (blk_lt BKE.out), Nat.ne_of_gt (blk_lt HIT.out), HB.out.size⟩, fun _ _ => blk_new _ _, fun h0_ => absurd ((hoff 11 (by kernel_rfl)).symm.trans h0_) (by decide), fun _ => rfl⟩
            refine steps_cons ?_ ?_
            · rintro b a w' ⟨gY_, m10_, ha, Q_HB, Q_BKN, Q_BKD, Q_BKE, Q_HIT, Q_SEP, Q_Z0, Q_BKY, Q_X10_⟩ hb_ hon hoff
              refine ⟨_, rfl, fun K hK => ?_⟩
              have e13 : a.tmps[13]? = some (m10_) := by rw [ha]; exact putSel_on (e := (10, 13, m10_)) 7 rfl rfl (hon 10 (by kernel_rfl)) rfl
              rw [Q_X10_ (hon 10 (by kernel_rfl))] at e13
              have e94 : a.tmps[94]? = some (.agg (sx y)) := by rw [ha]; exact putSel_on (e := (8, 94, .agg (sx y))) 5 rfl rfl (hon 8 (by kernel_rfl)) rfl
              replace ha := Aside0.mk ha
              have HB := Aside0.mk Q_HB
              have BKN := Aside0.mk Q_BKN
              have BKD := Aside0.mk Q_BKD
              have BKE := Aside0.mk Q_BKE
              have HIT := Aside0.mk Q_HIT
              have SEP := Aside0.mk (Q_SEP (hon 10 (by kernel_rfl)))
              have Z0 := Aside0.mk (Q_Z0 (hon 10 (by kernel_rfl)) hb_)
              have z0 : w'.cell? ⟨gY_, 0, none⟩ = some (.int .i64 0) := blk_cell Z0.out 0
              have z1 : w'.cell? ⟨gY_, 1, none⟩ = some (.int .i64 0) := blk_cell Z0.out 1
              have z2 : w'.cell? ⟨gY_, 2, none⟩ = some (.int .i64 0) := blk_cell Z0.out 2
              have z3 : w'.cell? ⟨gY_, 3, none⟩ = some (.int .i64 0) := blk_cell Z0.out 3
              have z4 : w'.cell? ⟨gY_, 4, none⟩ = some (.int .i64 0) := blk_cell Z0.out 4
              have z5 : w'.cell? ⟨gY_, 5, none⟩ = some (.int .i64 0) := blk_cell Z0.out 5
              have zf0 := blk_frozen Z0.out 0
              have zf1 := blk_frozen Z0.out 1
              have zf2 := blk_frozen Z0.out 2
              have zf3 := blk_frozen Z0.out 3
              have zf4 := blk_frozen Z0.out 4
              have zf5 := blk_frozen Z0.out 5
              have sep_ := SEP.out
              refine skip_ (w1 := ?_) (by rfl) rfl ?_ ?_
              rotate_left
              · go_simp
                rfl
              refine hK.out _ _ ⟨gY_, m10_, (by rw [ha.out]; exact putSel_none (v := undef) rfl), Draw.put6_below HB.out sep_.2.2.2.2 y.t y.n y.e y.s y.w y.b, put6_far BKN.out (Ne.symm sep_.1) y.t y.n y.e y.s y.w y.b, put6_far BKD.out (Ne.symm sep_.2.1) y.t y.n y.e y.s y.w y.b, put6_far BKE.out (Ne.symm sep_.2.2.1) y.t y.n y.e y.s y.w y.b, put6_far HIT.out (Ne.symm sep_.2.2.2.1) y.t y.n y.e y.s y.w y.b, Q_SEP, fun _ h1_ => absurd ((up_self b 11).symm.trans h1_) (by decide), fun _ => Draw.put6_blk Z0.out y.t y.n y.e y.s y.w y.b, Q_X10_⟩
            refine steps_cons ?_ ?_
            · rintro b a w' ⟨gY_, m10_, ha, Q_HB, Q_BKN, Q_BKD, Q_BKE, Q_HIT, Q_SEP, Q_Z0, Q_BKY, Q_X10_⟩ hb_ hon hoff
              refine ⟨_, rfl, fun K hK => ?_⟩
              have e95 : a.tmps[95]? = some (.bool true) := by rw [ha]; exact putSel_on (e := (9, 95, .bool true)) 6 rfl rfl (hon 9 (by kernel_rfl)) rfl
              replace ha := Aside0.mk ha
              have HB := Aside0.mk Q_HB
              have BKN := Aside0.mk Q_BKN
              have BKD := Aside0.mk Q_BKD
              have BKE := Aside0.mk Q_BKE
              have HIT := Aside0.mk Q_HIT
              have SEP := Aside0.mk (Q_SEP (hon 10 (by kernel_rfl)))
              have BKY := Aside0.mk (Q_BKY (hon 11 (by kernel_rfl)))
              refine value_ (w1 := w') (v := .bool true) (by rfl) rfl ?_ ?_
              · go_simp
                (try simp only [i64_w])
                try rfl
              refine hK.out _ _ ⟨gY_, m10_, (by rw [ha.out]; exact putSel_upk 8 hb_ rfl rfl rfl), Q_HB, Q_BKN, Q_BKD, Q_BKE, Q_HIT, Q_SEP, fun _ h1_ => absurd ((hon 11 (by kernel_rfl)).symm.trans h1_) (by decide), Q_BKY, Q_X10_⟩
            exact steps_nil
          · rintro b a w' hall ⟨gY_, m10_, ha, Q_HB, Q_BKN, Q_BKD, Q_BKE, Q_HIT, Q_SEP, Q_Z0, Q_BKY, Q_X10_⟩
            clear BKD BKE BKN HB HIT
            have hb0_ := hall 0 (by kernel_rfl)
            have hb4_ := hall 4 (by kernel_rfl)
            have hb5_ := hall 5 (by kernel_rfl)
            have hb6_ := hall 6 (by kernel_rfl)
            have hb7_ := hall 7 (by kernel_rfl)
            have hb8_ := hall 8 (by kernel_rfl)
            have hb9_ := hall 9 (by kernel_rfl)
            have hb10_ := hall 10 (by kernel_rfl)
            have hb11_ := hall 11 (by kernel_rfl)
            have hb12_ := hall 12 (by kernel_rfl)
            subst ha
            obtain rfl := Q_X10_ hb10_
            simp only [putSel, hb0_, hb4_, hb5_, hb6_, hb7_, hb8_, hb9_, hb10_, hb11_, hb12_, if_true, Act.put, List.setIfInBounds_toArray, List.set_cons_zero, List.set_cons_succ]
            have HB := Aside0.mk Q_HB
            clear Q_HB
            have BKN := Aside0.mk Q_BKN
            clear Q_BKN
            have BKD := Aside0.mk Q_BKD
            clear Q_BKD
            have BKE := Aside0.mk Q_BKE
            clear Q_BKE
            have HIT := Aside0.mk Q_HIT
            clear Q_HIT
            have SEP := Aside0.mk (Q_SEP hb10_)
            clear Q_SEP
            clear Q_Z0
            have BKY := Aside0.mk (Q_BKY hb11_)
            clear Q_BKY
            clear hall hb0_ hb4_ hb5_ hb6_ hb7_ hb8_ hb9_ hb10_ hb11_ hb12_
            go_upto_region 14 with fail
            obtain ⟨bY, hbY⟩ : ∃ z, z = gY_ := ⟨_, rfl⟩
            rw [← hbY] at BKY ⊢
            clear hbY
            obtain ⟨NEYN, NEYD⟩ : bN ≠ gY_ ∧ bD ≠ gY_ := ⟨SEP.out.1.symm, SEP.out.2.1.symm⟩
            have cY0 : w'.cell? ⟨bY, 0, none⟩ = some (.int .i64 y.t) := blk_cell BKY.out 0
            have cY1 : w'.cell? ⟨bY, 1, none⟩ = some (.int .i64 y.n) := blk_cell BKY.out 1
            have cY2 : w'.cell? ⟨bY, 2, none⟩ = some (.int .i64 y.e) := blk_cell BKY.out 2
            have cY3 : w'.cell? ⟨bY, 3, none⟩ = some (.int .i64 y.s) := blk_cell BKY.out 3
            have cY4 : w'.cell? ⟨bY, 4, none⟩ = some (.int .i64 y.w) := blk_cell BKY.out 4
            have cY5 : w'.cell? ⟨bY, 5, none⟩ = some (.int .i64 y.b) := blk_cell BKY.out 5
            have cN0 : w'.cell? ⟨bN, 0, none⟩ = some (.int .i64 x.t) := blk_cell BKN.out 0
            have cN1 : w'.cell? ⟨bN, 1, none⟩ = some (.int .i64 x.n) := blk_cell BKN.out 1
            have cN2 : w'.cell? ⟨bN, 2, none⟩ = some (.int .i64 x.e) := blk_cell BKN.out 2
            have cN3 : w'.cell? ⟨bN, 3, none⟩ = some (.int .i64 x.s) := blk_cell BKN.out 3
            have cN4 : w'.cell? ⟨bN, 4, none⟩ = some (.int .i64 x.w) := blk_cell BKN.out 4
            have cN5 : w'.cell? ⟨bN, 5, none⟩ = some (.int .i64 x.b) := blk_cell BKN.out 5
            have fN0 := blk_frozen BKN.out 0
            have fN1 := blk_frozen BKN.out 1
            have fN2 := blk_frozen BKN.out 2
            have fN3 := blk_frozen BKN.out 3
            have fN4 := blk_frozen BKN.out 4
            have fN5 := blk_frozen BKN.out 5
            go_wp2_with fail
            refine ⟨⟨i + 1, y, HLT.out, by rw [HY.out]; exact ST.out.2.1, by rw [HY.out]; exact ST.out.2.2, put6_far HIT.out (Ne.symm HFI.out.2.2.2) _ _ _ _ _ _, Draw.put6_blk BKN.out y.t y.n y.e y.s y.w y.b, put6_far BKD.out NEDN.out _ _ _ _ _ _, put6_far BKE.out NEEN.out _ _ _ _ _ _, Draw.put6_below HB.out HFN.out y.t y.n y.e y.s y.w y.b⟩, ?_⟩
            rw [HPI.out]
            show s.size - (Draw.put6 w' bN y.t y.n y.e y.s y.w y.b).iterPos It < s.size - i
            rw [iter_pos (put6_far HIT.out (Ne.symm HFI.out.2.2.2) y.t y.n y.e y.s y.w y.b)]
            have h_ := HLT.out
            omega
        · obtain rfl : i = s.size := by omega
          have hnx := fun ty => Go.Lib.run_next_end_at (P := Tryd.prog) wr It s s.size ty hit (Nat.lt_irrefl _)
          have hxe : x = en := by rw [HE.out, ← hro, List.drop_eq_nil_of_le (by rw [dirs_length]; exact Nat.le_refl _)]; rfl
          subst hxe
          have BKD := Go.Lib.hid hD
          have BKE := Go.Lib.hid hE
          have BKN := Go.Lib.hid hN
          have HB := Go.Lib.hid hb
          clear hi hgx hro hlt hN hD hE hb
          have hbi := back_is HGW.out
          have HBK := Go.Lib.hid hbi
          have HHM := Go.Lib.hid (back_home HGD.out HGW.out)
          rw [← HE.out] at HHM
          clear hbi
          go_wp2_with fail
          refine (Back.back_walk s HSZ.out _).mono ?_
          rintro e w38 ⟨rfl, hb⟩
          have n_HB := Go.Lib.hid (below_then HB.out HB.out.size hb)
          have n_BKD := Go.Lib.hid (blk_below BKD.out hb)
          have n_BKE := Go.Lib.hid (blk_below BKE.out hb)
          have n_BKN := Go.Lib.hid (blk_below BKN.out hb)
          clear HB BKD BKE BKN
          have HB := n_HB
          have BKD := n_BKD
          have BKE := n_BKE
          have BKN := n_BKN
          clear n_HB n_BKD n_BKE n_BKN
          clear hb hnx hit
          rw [HBK.out.1]
          obtain ⟨bs, hbs⟩ : ∃ z, z = (Back.backSays s).1 := ⟨_, rfl⟩
          rw [← hbs]
          have HBS := Go.Lib.hid hbs
          clear hbs
          have cE0 : w38.cell? ⟨bE, 0, none⟩ = some (.int .i64 x.t) := blk_cell BKE.out 0
          have cE1 : w38.cell? ⟨bE, 1, none⟩ = some (.int .i64 x.n) := blk_cell BKE.out 1
          have cE2 : w38.cell? ⟨bE, 2, none⟩ = some (.int .i64 x.e) := blk_cell BKE.out 2
          have cE3 : w38.cell? ⟨bE, 3, none⟩ = some (.int .i64 x.s) := blk_cell BKE.out 3
          have cE4 : w38.cell? ⟨bE, 4, none⟩ = some (.int .i64 x.w) := blk_cell BKE.out 4
          have cE5 : w38.cell? ⟨bE, 5, none⟩ = some (.int .i64 x.b) := blk_cell BKE.out 5
          go_wp2_with fail
          refine (rollWordI x bs (by rw [HBS.out]; exact HBK.out.2.2.2.symm ▸ HSZ.out) _).mono ?_
          rintro e w39 ⟨rfl, hb⟩
          have n_HB := Go.Lib.hid (below_then HB.out HB.out.size hb)
          have n_BKD := Go.Lib.hid (blk_below BKD.out hb)
          have n_BKE := Go.Lib.hid (blk_below BKE.out hb)
          have n_BKN := Go.Lib.hid (blk_below BKN.out hb)
          clear HB BKD BKE BKN
          have HB := n_HB
          have BKD := n_BKD
          have BKE := n_BKE
          have BKN := n_BKN
          clear n_HB n_BKD n_BKE n_BKN
          clear hb
          clear cE0 cE1 cE2 cE3 cE4 cE5
          rw [show rwB x bs = true from by rw [HBS.out]; exact HHM.out.1, show rwD x bs = d from by rw [HBS.out]; exact HHM.out.2]
          go_upto_region 19 with fail
          have n_HB := Go.Lib.hid (HB.out.alloc HB.out.size (.cells (sx d) 25))
          have n_BKD := Go.Lib.hid (blk_alloc BKD.out (.cells (sx d) 25))
          have n_BKE := Go.Lib.hid (blk_alloc BKE.out (.cells (sx d) 25))
          have n_BKN := Go.Lib.hid (blk_alloc BKN.out (.cells (sx d) 25))
          have n_BKH := Go.Lib.hid (blk_new w39 (.cells (sx d) 25))
          obtain ⟨bH, hbH⟩ : ∃ b, b = w39.heap.size := ⟨_, rfl⟩
          have HFH := Go.Lib.hid (show w.heap.size ≤ bH from by rw [hbH]; exact HB.out.size)
          have NEDH := Go.Lib.hid (show bD ≠ bH from by have h_ := (Array.getElem?_eq_some_iff.1 BKD.out).1; omega)
          have NEEH := Go.Lib.hid (show bE ≠ bH from by have h_ := (Array.getElem?_eq_some_iff.1 BKE.out).1; omega)
          have NENH := Go.Lib.hid (show bN ≠ bH from by have h_ := (Array.getElem?_eq_some_iff.1 BKN.out).1; omega)
          rw [← hbH] at n_BKH ⊢
          clear hbH HB BKD BKE BKN
          generalize World.alloc _ _ = w40 at n_HB n_BKD n_BKE n_BKN n_BKH ⊢
          have HB := n_HB
          have BKD := n_BKD
          have BKE := n_BKE
          have BKN := n_BKN
          have BKH := n_BKH
          clear n_HB n_BKD n_BKE n_BKN n_BKH
          obtain ⟨od, hod⟩ : ∃ m, m = Order.ord s := ⟨_, rfl⟩
          have HOD := Go.Lib.hid hod
          have o1 := (Order.ord_some s).1
          have o4 := (Order.ord_some s).2
          rw [← hod] at o1 o4
          have HO14 := Go.Lib.hid (And.intro o1 o4)
          clear hod
          go_wp2_with fail
          refine (Order.order_walk s HSZ.out _).mono ?_
          rintro e w41 ⟨rfl, hb⟩
          have n_HB := Go.Lib.hid (below_then HB.out HB.out.size hb)
          have n_BKD := Go.Lib.hid (blk_below BKD.out hb)
          have n_BKE := Go.Lib.hid (blk_below BKE.out hb)
          have n_BKN := Go.Lib.hid (blk_below BKN.out hb)
          have n_BKH := Go.Lib.hid (blk_below BKH.out hb)
          clear HB BKD BKE BKN BKH
          have HB := n_HB
          have BKD := n_BKD
          have BKE := n_BKE
          have BKN := n_BKN
          have BKH := n_BKH
          clear n_HB n_BKD n_BKE n_BKN n_BKH
          clear hb
          rw [if_pos HGW.out, HGW.out, ← HOD.out]
          have o1i : ¬ (od : Int) < 1 := by omega
          have o4i : ¬ (4 : Int) < (od : Int) := by omega
          have o1n : ¬ od < 1 := by omega
          have o4n : ¬ 4 < od := by omega
          have cN0 : w41.cell? ⟨bN, 0, none⟩ = some (.int .i64 x.t) := blk_cell BKN.out 0
          have cN1 : w41.cell? ⟨bN, 1, none⟩ = some (.int .i64 x.n) := blk_cell BKN.out 1
          have cN2 : w41.cell? ⟨bN, 2, none⟩ = some (.int .i64 x.e) := blk_cell BKN.out 2
          have cN3 : w41.cell? ⟨bN, 3, none⟩ = some (.int .i64 x.s) := blk_cell BKN.out 3
          have cN4 : w41.cell? ⟨bN, 4, none⟩ = some (.int .i64 x.w) := blk_cell BKN.out 4
          have cN5 : w41.cell? ⟨bN, 5, none⟩ = some (.int .i64 x.b) := blk_cell BKN.out 5
          have cE0 : w41.cell? ⟨bE, 0, none⟩ = some (.int .i64 x.t) := blk_cell BKE.out 0
          have cE1 : w41.cell? ⟨bE, 1, none⟩ = some (.int .i64 x.n) := blk_cell BKE.out 1
          have cE2 : w41.cell? ⟨bE, 2, none⟩ = some (.int .i64 x.e) := blk_cell BKE.out 2
          have cE3 : w41.cell? ⟨bE, 3, none⟩ = some (.int .i64 x.s) := blk_cell BKE.out 3
          have cE4 : w41.cell? ⟨bE, 4, none⟩ = some (.int .i64 x.w) := blk_cell BKE.out 4
          have cE5 : w41.cell? ⟨bE, 5, none⟩ = some (.int .i64 x.b) := blk_cell BKE.out 5
          have cH0 : w41.cell? ⟨bH, 0, none⟩ = some (.int .i64 d.t) := blk_cell BKH.out 0
          have cH1 : w41.cell? ⟨bH, 1, none⟩ = some (.int .i64 d.n) := blk_cell BKH.out 1
          have cH2 : w41.cell? ⟨bH, 2, none⟩ = some (.int .i64 d.e) := blk_cell BKH.out 2
          have cH3 : w41.cell? ⟨bH, 3, none⟩ = some (.int .i64 d.s) := blk_cell BKH.out 3
          have cH4 : w41.cell? ⟨bH, 4, none⟩ = some (.int .i64 d.w) := blk_cell BKH.out 4
          have cH5 : w41.cell? ⟨bH, 5, none⟩ = some (.int .i64 d.b) := blk_cell BKH.out 5
          have cD0 : w41.cell? ⟨bD, 0, none⟩ = some (.int .i64 d.t) := blk_cell BKD.out 0
          have cD1 : w41.cell? ⟨bD, 1, none⟩ = some (.int .i64 d.n) := blk_cell BKD.out 1
          have cD2 : w41.cell? ⟨bD, 2, none⟩ = some (.int .i64 d.e) := blk_cell BKD.out 2
          have cD3 : w41.cell? ⟨bD, 3, none⟩ = some (.int .i64 d.s) := blk_cell BKD.out 3
          have cD4 : w41.cell? ⟨bD, 4, none⟩ = some (.int .i64 d.w) := blk_cell BKD.out 4
          have cD5 : w41.cell? ⟨bD, 5, none⟩ = some (.int .i64 d.b) := blk_cell BKD.out 5
          go_upto_region 22 with fail
          clear cN0 cN1 cN2 cN3 cN4 cN5 cE0 cE1 cE2 cE3 cE4 cE5 cH0 cH1 cH2 cH3 cH4 cH5 cD0 cD1 cD2 cD3 cD4 cD5
          clear o1i o4i o1n o4n o1 o4
          clear BKN
          clear BKH
          have cD0 : w41.cell? ⟨bD, 0, none⟩ = some (.int .i64 d.t) := blk_cell BKD.out 0
          have cD1 : w41.cell? ⟨bD, 1, none⟩ = some (.int .i64 d.n) := blk_cell BKD.out 1
          have cD2 : w41.cell? ⟨bD, 2, none⟩ = some (.int .i64 d.e) := blk_cell BKD.out 2
          have cD3 : w41.cell? ⟨bD, 3, none⟩ = some (.int .i64 d.s) := blk_cell BKD.out 3
          have cD4 : w41.cell? ⟨bD, 4, none⟩ = some (.int .i64 d.w) := blk_cell BKD.out 4
          have cD5 : w41.cell? ⟨bD, 5, none⟩ = some (.int .i64 d.b) := blk_cell BKD.out 5
          go_upto_region 23 with fail
          have n_HB := Go.Lib.hid (HB.out.alloc HB.out.size (.cells (sx d) 25))
          have n_BKD := Go.Lib.hid (blk_alloc BKD.out (.cells (sx d) 25))
          have n_BKE := Go.Lib.hid (blk_alloc BKE.out (.cells (sx d) 25))
          have n_BKG := Go.Lib.hid (blk_new w41 (.cells (sx d) 25))
          obtain ⟨bG, hbG⟩ : ∃ b, b = w41.heap.size := ⟨_, rfl⟩
          have HFG := Go.Lib.hid (show w.heap.size ≤ bG from by rw [hbG]; exact HB.out.size)
          have NEDG := Go.Lib.hid (show bD ≠ bG from by have h_ := (Array.getElem?_eq_some_iff.1 BKD.out).1; omega)
          have NEEG := Go.Lib.hid (show bE ≠ bG from by have h_ := (Array.getElem?_eq_some_iff.1 BKE.out).1; omega)
          rw [← hbG] at n_BKG ⊢
          clear hbG HB BKD BKE
          generalize World.alloc _ _ = w42 at n_HB n_BKD n_BKE n_BKG ⊢
          have HB := n_HB
          have BKD := n_BKD
          have BKE := n_BKE
          have BKG := n_BKG
          clear n_HB n_BKD n_BKE n_BKG
          clear cD0 cD1 cD2 cD3 cD4 cD5
          go_wp2_with fail
          go_loopw [22] (fun v22 wr => ∃ k : Nat, v22 = .int .i64 (k : Int) ∧ k ≤ od ∧ Blk wr bG (pn d s k) ∧ Blk wr bD d ∧ Blk wr bE x ∧ Below w.heap.size w wr) (fun v22 _ => od - (intOf v22).toNat)
          case atStart => exact ⟨0, rfl, Nat.zero_le _, BKG.out, BKD.out, BKE.out, HB.out⟩
          case round =>
            clear BKG BKD BKE HB
            obtain ⟨k, rfl, hk, hG, hD, hE, hb⟩ := hrel
            obtain ⟨z, hz⟩ : ∃ z, z = pn d s k := ⟨_, rfl⟩
            have HZK := Go.Lib.hid hz
            rw [← hz] at hG
            have BKD := Go.Lib.hid hD
            have BKE := Go.Lib.hid hE
            have BKG := Go.Lib.hid hG
            have HB := Go.Lib.hid hb
            clear hz hG hD hE hb
            by_cases hko : k < od
            · have q1 : (k : Int) < (od : Int) := by omega
              have q2 : IntKind.i64.wrap ((k : Int) + 1) = ((k + 1 : Nat) : Int) := by rw [IntKind.wrap_i64]; have h_ := HO14.out; omega
              have HKO := Go.Lib.hid hko
              clear hk hko
              have cG0 : wr.cell? ⟨bG, 0, none⟩ = some (.int .i64 z.t) := blk_cell BKG.out 0
              have cG1 : wr.cell? ⟨bG, 1, none⟩ = some (.int .i64 z.n) := blk_cell BKG.out 1
              have cG2 : wr.cell? ⟨bG, 2, none⟩ = some (.int .i64 z.e) := blk_cell BKG.out 2
              have cG3 : wr.cell? ⟨bG, 3, none⟩ = some (.int .i64 z.s) := blk_cell BKG.out 3
              have cG4 : wr.cell? ⟨bG, 4, none⟩ = some (.int .i64 z.w) := blk_cell BKG.out 4
              have cG5 : wr.cell? ⟨bG, 5, none⟩ = some (.int .i64 z.b) := blk_cell BKG.out 5
              go_wp2_with fail
              refine (rollWordI z s HSZ.out _).mono ?_
              rintro e w43 ⟨rfl, hb⟩
              have n_HB := Go.Lib.hid (below_then HB.out HB.out.size hb)
              have n_BKD := Go.Lib.hid (blk_below BKD.out hb)
              have n_BKE := Go.Lib.hid (blk_below BKE.out hb)
              have n_BKG := Go.Lib.hid (blk_below BKG.out hb)
              clear HB BKD BKE BKG
              have HB := n_HB
              have BKD := n_BKD
              have BKE := n_BKE
              have BKG := n_BKG
              clear n_HB n_BKD n_BKE n_BKG
              clear hb
              clear cG0 cG1 cG2 cG3 cG4 cG5
              obtain ⟨y, hy⟩ : ∃ y, y = pn d s (k + 1) := ⟨_, rfl⟩
              rw [show rwD z s = y from by rw [hy, HZK.out]; exact pn_step HGD.out HGW.out k]
              have HY := Go.Lib.hid hy
              clear hy
              have cG0 : w43.cell? ⟨bG, 0, none⟩ = some (.int .i64 z.t) := blk_cell BKG.out 0
              have cG1 : w43.cell? ⟨bG, 1, none⟩ = some (.int .i64 z.n) := blk_cell BKG.out 1
              have cG2 : w43.cell? ⟨bG, 2, none⟩ = some (.int .i64 z.e) := blk_cell BKG.out 2
              have cG3 : w43.cell? ⟨bG, 3, none⟩ = some (.int .i64 z.s) := blk_cell BKG.out 3
              have cG4 : w43.cell? ⟨bG, 4, none⟩ = some (.int .i64 z.w) := blk_cell BKG.out 4
              have cG5 : w43.cell? ⟨bG, 5, none⟩ = some (.int .i64 z.b) := blk_cell BKG.out 5
              have fG0 := blk_frozen BKG.out 0
              have fG1 := blk_frozen BKG.out 1
              have fG2 := blk_frozen BKG.out 2
              have fG3 := blk_frozen BKG.out 3
              have fG4 := blk_frozen BKG.out 4
              have fG5 := blk_frozen BKG.out 5
              go_wp2_with fail
              exact ⟨⟨k + 1, by rw [Int.natCast_add]; rfl, HKO.out, by rw [← HY.out]; exact Draw.put6_blk BKG.out y.t y.n y.e y.s y.w y.b, put6_far BKD.out NEDG.out _ _ _ _ _ _, put6_far BKE.out NEEG.out _ _ _ _ _ _, Draw.put6_below HB.out HFG.out y.t y.n y.e y.s y.w y.b⟩, by have h_ := HKO.out; simp [intOf]; omega⟩
            · obtain rfl : k = od := by omega
              have q1 : ¬ (k : Int) < (k : Int) := by omega
              have hzd : z = d := by rw [HZK.out, HOD.out]; exact pn_ord d s
              subst hzd
              clear hk hko
              have cG0 : wr.cell? ⟨bG, 0, none⟩ = some (.int .i64 z.t) := blk_cell BKG.out 0
              have cG1 : wr.cell? ⟨bG, 1, none⟩ = some (.int .i64 z.n) := blk_cell BKG.out 1
              have cG2 : wr.cell? ⟨bG, 2, none⟩ = some (.int .i64 z.e) := blk_cell BKG.out 2
              have cG3 : wr.cell? ⟨bG, 3, none⟩ = some (.int .i64 z.s) := blk_cell BKG.out 3
              have cG4 : wr.cell? ⟨bG, 4, none⟩ = some (.int .i64 z.w) := blk_cell BKG.out 4
              have cG5 : wr.cell? ⟨bG, 5, none⟩ = some (.int .i64 z.b) := blk_cell BKG.out 5
              have cD0 : wr.cell? ⟨bD, 0, none⟩ = some (.int .i64 z.t) := blk_cell BKD.out 0
              have cD1 : wr.cell? ⟨bD, 1, none⟩ = some (.int .i64 z.n) := blk_cell BKD.out 1
              have cD2 : wr.cell? ⟨bD, 2, none⟩ = some (.int .i64 z.e) := blk_cell BKD.out 2
              have cD3 : wr.cell? ⟨bD, 3, none⟩ = some (.int .i64 z.s) := blk_cell BKD.out 3
              have cD4 : wr.cell? ⟨bD, 4, none⟩ = some (.int .i64 z.w) := blk_cell BKD.out 4
              have cD5 : wr.cell? ⟨bD, 5, none⟩ = some (.int .i64 z.b) := blk_cell BKD.out 5
              go_upto_region 29 with fail
              clear cG0 cG1 cG2 cG3 cG4 cG5 cD0 cD1 cD2 cD3 cD4 cD5
              clear BKG
              have htw := turn_word HGD.out HGW.out
              rw [← HE.out] at htw
              have HTW := Go.Lib.hid htw
              clear htw q1
              obtain ⟨tu, htu⟩ : ∃ y, y = tdD z 1 := ⟨_, rfl⟩
              have HTU := Go.Lib.hid htu
              clear htu
              have cD0 : wr.cell? ⟨bD, 0, none⟩ = some (.int .i64 z.t) := blk_cell BKD.out 0
              have cD1 : wr.cell? ⟨bD, 1, none⟩ = some (.int .i64 z.n) := blk_cell BKD.out 1
              have cD2 : wr.cell? ⟨bD, 2, none⟩ = some (.int .i64 z.e) := blk_cell BKD.out 2
              have cD3 : wr.cell? ⟨bD, 3, none⟩ = some (.int .i64 z.s) := blk_cell BKD.out 3
              have cD4 : wr.cell? ⟨bD, 4, none⟩ = some (.int .i64 z.w) := blk_cell BKD.out 4
              have cD5 : wr.cell? ⟨bD, 5, none⟩ = some (.int .i64 z.b) := blk_cell BKD.out 5
              go_wp2_with fail
              refine (turnDieI z 1 _).mono ?_
              rintro e w44 ⟨rfl, hb⟩
              have n_HB := Go.Lib.hid (below_then HB.out HB.out.size hb)
              have n_BKD := Go.Lib.hid (blk_below BKD.out hb)
              have n_BKE := Go.Lib.hid (blk_below BKE.out hb)
              clear HB BKD BKE
              have HB := n_HB
              have BKD := n_BKD
              have BKE := n_BKE
              clear n_HB n_BKD n_BKE
              clear hb
              clear cD0 cD1 cD2 cD3 cD4 cD5
              rw [HTW.out.2.1, ← HTU.out]
              go_upto_region 30 with fail
              have n_HB := Go.Lib.hid (HB.out.alloc HB.out.size (.cells (sx tu) 25))
              have n_BKD := Go.Lib.hid (blk_alloc BKD.out (.cells (sx tu) 25))
              have n_BKE := Go.Lib.hid (blk_alloc BKE.out (.cells (sx tu) 25))
              have n_BKT := Go.Lib.hid (blk_new w44 (.cells (sx tu) 25))
              obtain ⟨bT, hbT⟩ : ∃ b, b = w44.heap.size := ⟨_, rfl⟩
              have HFT := Go.Lib.hid (show w.heap.size ≤ bT from by rw [hbT]; exact HB.out.size)
              have NEDT := Go.Lib.hid (show bD ≠ bT from by have h_ := (Array.getElem?_eq_some_iff.1 BKD.out).1; omega)
              have NEET := Go.Lib.hid (show bE ≠ bT from by have h_ := (Array.getElem?_eq_some_iff.1 BKE.out).1; omega)
              rw [← hbT] at n_BKT ⊢
              clear hbT HB BKD BKE
              generalize World.alloc _ _ = w45 at n_HB n_BKD n_BKE n_BKT ⊢
              have HB := n_HB
              have BKD := n_BKD
              have BKE := n_BKE
              have BKT := n_BKT
              clear n_HB n_BKD n_BKE n_BKT
              go_wp2_with fail
              refine (turnRolls s HSZ.out _).mono ?_
              rintro e w46 ⟨rfl, hb⟩
              have n_HB := Go.Lib.hid (below_then HB.out HB.out.size hb)
              have n_BKD := Go.Lib.hid (blk_below BKD.out hb)
              have n_BKE := Go.Lib.hid (blk_below BKE.out hb)
              have n_BKT := Go.Lib.hid (blk_below BKT.out hb)
              clear HB BKD BKE BKT
              have HB := n_HB
              have BKD := n_BKD
              have BKE := n_BKE
              have BKT := n_BKT
              clear n_HB n_BKD n_BKE n_BKT
              clear hb
              rw [HGW.out]
              obtain ⟨ts, hts⟩ : ∃ y, y = trS s := ⟨_, rfl⟩
              rw [← hts]
              have HTS := Go.Lib.hid hts
              clear hts
              obtain ⟨ov, hov⟩ : ∃ y, y = tdD x 1 := ⟨_, rfl⟩
              have HOV := Go.Lib.hid hov
              clear hov
              have cT0 : w46.cell? ⟨bT, 0, none⟩ = some (.int .i64 tu.t) := blk_cell BKT.out 0
              have cT1 : w46.cell? ⟨bT, 1, none⟩ = some (.int .i64 tu.n) := blk_cell BKT.out 1
              have cT2 : w46.cell? ⟨bT, 2, none⟩ = some (.int .i64 tu.e) := blk_cell BKT.out 2
              have cT3 : w46.cell? ⟨bT, 3, none⟩ = some (.int .i64 tu.s) := blk_cell BKT.out 3
              have cT4 : w46.cell? ⟨bT, 4, none⟩ = some (.int .i64 tu.w) := blk_cell BKT.out 4
              have cT5 : w46.cell? ⟨bT, 5, none⟩ = some (.int .i64 tu.b) := blk_cell BKT.out 5
              go_wp2_with fail
              refine (rollWordI tu ts (by rw [HTS.out, HTW.out.1]; exact HSZ.out) _).mono ?_
              rintro e w47 ⟨rfl, hb⟩
              have n_HB := Go.Lib.hid (below_then HB.out HB.out.size hb)
              have n_BKD := Go.Lib.hid (blk_below BKD.out hb)
              have n_BKE := Go.Lib.hid (blk_below BKE.out hb)
              have n_BKT := Go.Lib.hid (blk_below BKT.out hb)
              clear HB BKD BKE BKT
              have HB := n_HB
              have BKD := n_BKD
              have BKE := n_BKE
              have BKT := n_BKT
              clear n_HB n_BKD n_BKE n_BKT
              clear hb
              clear cT0 cT1 cT2 cT3 cT4 cT5
              rw [show rwB tu ts = true from by rw [HTU.out, HTS.out]; exact HTW.out.2.2.1, show rwD tu ts = ov from by rw [HTU.out, HTS.out, HOV.out]; exact HTW.out.2.2.2.2]
              go_upto_region 32 with fail
              have n_HB := Go.Lib.hid (HB.out.alloc HB.out.size (.cells (sx ov) 25))
              have n_BKD := Go.Lib.hid (blk_alloc BKD.out (.cells (sx ov) 25))
              have n_BKE := Go.Lib.hid (blk_alloc BKE.out (.cells (sx ov) 25))
              have n_BKT := Go.Lib.hid (blk_alloc BKT.out (.cells (sx ov) 25))
              have n_BKO := Go.Lib.hid (blk_new w47 (.cells (sx ov) 25))
              obtain ⟨bO, hbO⟩ : ∃ b, b = w47.heap.size := ⟨_, rfl⟩
              have HFO := Go.Lib.hid (show w.heap.size ≤ bO from by rw [hbO]; exact HB.out.size)
              have NEDO := Go.Lib.hid (show bD ≠ bO from by have h_ := (Array.getElem?_eq_some_iff.1 BKD.out).1; omega)
              have NEEO := Go.Lib.hid (show bE ≠ bO from by have h_ := (Array.getElem?_eq_some_iff.1 BKE.out).1; omega)
              have NETO := Go.Lib.hid (show bT ≠ bO from by have h_ := (Array.getElem?_eq_some_iff.1 BKT.out).1; omega)
              rw [← hbO] at n_BKO ⊢
              clear hbO HB BKD BKE BKT
              generalize World.alloc _ _ = w48 at n_HB n_BKD n_BKE n_BKT n_BKO ⊢
              have HB := n_HB
              have BKD := n_BKD
              have BKE := n_BKE
              have BKT := n_BKT
              have BKO := n_BKO
              clear n_HB n_BKD n_BKE n_BKT n_BKO
              have cE0 : w48.cell? ⟨bE, 0, none⟩ = some (.int .i64 x.t) := blk_cell BKE.out 0
              have cE1 : w48.cell? ⟨bE, 1, none⟩ = some (.int .i64 x.n) := blk_cell BKE.out 1
              have cE2 : w48.cell? ⟨bE, 2, none⟩ = some (.int .i64 x.e) := blk_cell BKE.out 2
              have cE3 : w48.cell? ⟨bE, 3, none⟩ = some (.int .i64 x.s) := blk_cell BKE.out 3
              have cE4 : w48.cell? ⟨bE, 4, none⟩ = some (.int .i64 x.w) := blk_cell BKE.out 4
              have cE5 : w48.cell? ⟨bE, 5, none⟩ = some (.int .i64 x.b) := blk_cell BKE.out 5
              go_wp2_with fail
              refine (turnDieI x 1 _).mono ?_
              rintro e w49 ⟨rfl, hb⟩
              have n_HB := Go.Lib.hid (below_then HB.out HB.out.size hb)
              have n_BKD := Go.Lib.hid (blk_below BKD.out hb)
              have n_BKE := Go.Lib.hid (blk_below BKE.out hb)
              have n_BKT := Go.Lib.hid (blk_below BKT.out hb)
              have n_BKO := Go.Lib.hid (blk_below BKO.out hb)
              clear HB BKD BKE BKT BKO
              have HB := n_HB
              have BKD := n_BKD
              have BKE := n_BKE
              have BKT := n_BKT
              have BKO := n_BKO
              clear n_HB n_BKD n_BKE n_BKT n_BKO
              clear hb
              clear cE0 cE1 cE2 cE3 cE4 cE5
              rw [HTW.out.2.2.2.1, ← HOV.out]
              go_upto_region 33 with fail
              have n_HB := Go.Lib.hid (HB.out.alloc HB.out.size (.cells (sx ov) 25))
              have n_BKD := Go.Lib.hid (blk_alloc BKD.out (.cells (sx ov) 25))
              have n_BKE := Go.Lib.hid (blk_alloc BKE.out (.cells (sx ov) 25))
              have n_BKT := Go.Lib.hid (blk_alloc BKT.out (.cells (sx ov) 25))
              have n_BKO := Go.Lib.hid (blk_alloc BKO.out (.cells (sx ov) 25))
              have n_BKU := Go.Lib.hid (blk_new w49 (.cells (sx ov) 25))
              obtain ⟨bU, hbU⟩ : ∃ b, b = w49.heap.size := ⟨_, rfl⟩
              have HFU := Go.Lib.hid (show w.heap.size ≤ bU from by rw [hbU]; exact HB.out.size)
              have NEDU := Go.Lib.hid (show bD ≠ bU from by have h_ := (Array.getElem?_eq_some_iff.1 BKD.out).1; omega)
              have NEEU := Go.Lib.hid (show bE ≠ bU from by have h_ := (Array.getElem?_eq_some_iff.1 BKE.out).1; omega)
              have NETU := Go.Lib.hid (show bT ≠ bU from by have h_ := (Array.getElem?_eq_some_iff.1 BKT.out).1; omega)
              have NEOU := Go.Lib.hid (show bO ≠ bU from by have h_ := (Array.getElem?_eq_some_iff.1 BKO.out).1; omega)
              rw [← hbU] at n_BKU ⊢
              clear hbU HB BKD BKE BKT BKO
              generalize World.alloc _ _ = w50 at n_HB n_BKD n_BKE n_BKT n_BKO n_BKU ⊢
              have HB := n_HB
              have BKD := n_BKD
              have BKE := n_BKE
              have BKT := n_BKT
              have BKO := n_BKO
              have BKU := n_BKU
              clear n_HB n_BKD n_BKE n_BKT n_BKO n_BKU
              have cO0 : w50.cell? ⟨bO, 0, none⟩ = some (.int .i64 ov.t) := blk_cell BKO.out 0
              have cO1 : w50.cell? ⟨bO, 1, none⟩ = some (.int .i64 ov.n) := blk_cell BKO.out 1
              have cO2 : w50.cell? ⟨bO, 2, none⟩ = some (.int .i64 ov.e) := blk_cell BKO.out 2
              have cO3 : w50.cell? ⟨bO, 3, none⟩ = some (.int .i64 ov.s) := blk_cell BKO.out 3
              have cO4 : w50.cell? ⟨bO, 4, none⟩ = some (.int .i64 ov.w) := blk_cell BKO.out 4
              have cO5 : w50.cell? ⟨bO, 5, none⟩ = some (.int .i64 ov.b) := blk_cell BKO.out 5
              have cU0 : w50.cell? ⟨bU, 0, none⟩ = some (.int .i64 ov.t) := blk_cell BKU.out 0
              have cU1 : w50.cell? ⟨bU, 1, none⟩ = some (.int .i64 ov.n) := blk_cell BKU.out 1
              have cU2 : w50.cell? ⟨bU, 2, none⟩ = some (.int .i64 ov.e) := blk_cell BKU.out 2
              have cU3 : w50.cell? ⟨bU, 3, none⟩ = some (.int .i64 ov.s) := blk_cell BKU.out 3
              have cU4 : w50.cell? ⟨bU, 4, none⟩ = some (.int .i64 ov.w) := blk_cell BKU.out 4
              have cU5 : w50.cell? ⟨bU, 5, none⟩ = some (.int .i64 ov.b) := blk_cell BKU.out 5
              go_upto_region 35 with fail
              clear cO0 cO1 cO2 cO3 cO4 cO5 cU0 cU1 cU2 cU3 cU4 cU5
              clear BKO
              clear BKU
              clear BKT
              clear BKD
              clear BKE
              go_wp2_with fail
              refine (HDD.out _ HB.out).mono ?_
              rintro e w51 ⟨a0, a1, a2, a3, a4, a5, t, rfl, hz, hb⟩
              have n_HB := Go.Lib.hid (below_then HB.out HB.out.size hb)
              clear HB
              have HB := n_HB
              clear n_HB
              obtain ⟨q, hq⟩ : ∃ q : Die, q = ⟨a0, a1, a2, a3, a4, a5⟩ := ⟨_, rfl⟩
              rw [show DiF.six a0 a1 a2 a3 a4 a5 = sx q from by rw [hq]]
              clear hq hz hb a0 a1 a2 a3 a4 a5
              go_upto_region 36 with fail
              have n_HB := Go.Lib.hid (HB.out.alloc HB.out.size (.cells (sx q) 25))
              have n_BKQ := Go.Lib.hid (blk_new w51 (.cells (sx q) 25))
              obtain ⟨bQ, hbQ⟩ : ∃ b, b = w51.heap.size := ⟨_, rfl⟩
              have HFQ := Go.Lib.hid (show w.heap.size ≤ bQ from by rw [hbQ]; exact HB.out.size)
              rw [← hbQ] at n_BKQ ⊢
              clear hbQ HB 
              generalize World.alloc _ _ = w52 at n_HB n_BKQ ⊢
              have HB := n_HB
              have BKQ := n_BKQ
              clear n_HB n_BKQ
              obtain ⟨ra, hra⟩ : ∃ x, x = rdD q t := ⟨_, rfl⟩
              have HRA := Go.Lib.hid hra
              obtain ⟨rb, hrb⟩ : ∃ x, x = rdB q t := ⟨_, rfl⟩
              have HRB := Go.Lib.hid hrb
              clear hra hrb
              have cQ0 : w52.cell? ⟨bQ, 0, none⟩ = some (.int .i64 q.t) := blk_cell BKQ.out 0
              have cQ1 : w52.cell? ⟨bQ, 1, none⟩ = some (.int .i64 q.n) := blk_cell BKQ.out 1
              have cQ2 : w52.cell? ⟨bQ, 2, none⟩ = some (.int .i64 q.e) := blk_cell BKQ.out 2
              have cQ3 : w52.cell? ⟨bQ, 3, none⟩ = some (.int .i64 q.s) := blk_cell BKQ.out 3
              have cQ4 : w52.cell? ⟨bQ, 4, none⟩ = some (.int .i64 q.w) := blk_cell BKQ.out 4
              have cQ5 : w52.cell? ⟨bQ, 5, none⟩ = some (.int .i64 q.b) := blk_cell BKQ.out 5
              go_wp2_with fail
              refine (rollDieI q t _).mono ?_
              rintro e w53 ⟨rfl, hb⟩
              have n_HB := Go.Lib.hid (below_then HB.out HB.out.size hb)
              have n_BKQ := Go.Lib.hid (blk_below BKQ.out hb)
              clear HB BKQ
              have HB := n_HB
              have BKQ := n_BKQ
              clear n_HB n_BKQ
              clear hb
              clear cQ0 cQ1 cQ2 cQ3 cQ4 cQ5
              rw [← HRA.out, ← HRB.out]
              go_upto_region 37 with fail
              have n_HB := Go.Lib.hid (HB.out.alloc HB.out.size (.cells (sx ra) 25))
              have n_BKQ := Go.Lib.hid (blk_alloc BKQ.out (.cells (sx ra) 25))
              have n_BKA := Go.Lib.hid (blk_new w53 (.cells (sx ra) 25))
              obtain ⟨bA, hbA⟩ : ∃ b, b = w53.heap.size := ⟨_, rfl⟩
              have HFA := Go.Lib.hid (show w.heap.size ≤ bA from by rw [hbA]; exact HB.out.size)
              have NEQA := Go.Lib.hid (show bQ ≠ bA from by have h_ := (Array.getElem?_eq_some_iff.1 BKQ.out).1; omega)
              rw [← hbA] at n_BKA ⊢
              clear hbA HB BKQ
              generalize World.alloc _ _ = w54 at n_HB n_BKQ n_BKA ⊢
              have HB := n_HB
              have BKQ := n_BKQ
              have BKA := n_BKA
              clear n_HB n_BKQ n_BKA
              have cQ0 : w54.cell? ⟨bQ, 0, none⟩ = some (.int .i64 q.t) := blk_cell BKQ.out 0
              have cQ1 : w54.cell? ⟨bQ, 1, none⟩ = some (.int .i64 q.n) := blk_cell BKQ.out 1
              have cQ2 : w54.cell? ⟨bQ, 2, none⟩ = some (.int .i64 q.e) := blk_cell BKQ.out 2
              have cQ3 : w54.cell? ⟨bQ, 3, none⟩ = some (.int .i64 q.s) := blk_cell BKQ.out 3
              have cQ4 : w54.cell? ⟨bQ, 4, none⟩ = some (.int .i64 q.w) := blk_cell BKQ.out 4
              have cQ5 : w54.cell? ⟨bQ, 5, none⟩ = some (.int .i64 q.b) := blk_cell BKQ.out 5
              go_wp2_with fail
              refine (rollDieS q t _).mono ?_
              rintro e w55 ⟨rfl, hb⟩
              have n_HB := Go.Lib.hid (below_then HB.out HB.out.size hb)
              have n_BKQ := Go.Lib.hid (blk_below BKQ.out hb)
              have n_BKA := Go.Lib.hid (blk_below BKA.out hb)
              clear HB BKQ BKA
              have HB := n_HB
              have BKQ := n_BKQ
              have BKA := n_BKA
              clear n_HB n_BKQ n_BKA
              clear hb
              clear cQ0 cQ1 cQ2 cQ3 cQ4 cQ5
              rw [← HRA.out, ← HRB.out]
              go_upto_region 38 with fail
              have n_HB := Go.Lib.hid (HB.out.alloc HB.out.size (.cells (sx ra) 25))
              have n_BKQ := Go.Lib.hid (blk_alloc BKQ.out (.cells (sx ra) 25))
              have n_BKA := Go.Lib.hid (blk_alloc BKA.out (.cells (sx ra) 25))
              have n_BKB := Go.Lib.hid (blk_new w55 (.cells (sx ra) 25))
              obtain ⟨bB, hbB⟩ : ∃ b, b = w55.heap.size := ⟨_, rfl⟩
              have HFB := Go.Lib.hid (show w.heap.size ≤ bB from by rw [hbB]; exact HB.out.size)
              have NEQB := Go.Lib.hid (show bQ ≠ bB from by have h_ := (Array.getElem?_eq_some_iff.1 BKQ.out).1; omega)
              have NEAB := Go.Lib.hid (show bA ≠ bB from by have h_ := (Array.getElem?_eq_some_iff.1 BKA.out).1; omega)
              rw [← hbB] at n_BKB ⊢
              clear hbB HB BKQ BKA
              generalize World.alloc _ _ = w56 at n_HB n_BKQ n_BKA n_BKB ⊢
              have HB := n_HB
              have BKQ := n_BKQ
              have BKA := n_BKA
              have BKB := n_BKB
              clear n_HB n_BKQ n_BKA n_BKB
              go_wp2_with fail
              refine (HDT.out _ HB.out).mono ?_
              rintro e w57 ⟨a0, a1, a2, a3, a4, a5, k, rfl, hb⟩
              have n_HB := Go.Lib.hid (below_then HB.out HB.out.size hb)
              have n_BKQ := Go.Lib.hid (blk_below BKQ.out hb)
              have n_BKA := Go.Lib.hid (blk_below BKA.out hb)
              have n_BKB := Go.Lib.hid (blk_below BKB.out hb)
              clear HB BKQ BKA BKB
              have HB := n_HB
              have BKQ := n_BKQ
              have BKA := n_BKA
              have BKB := n_BKB
              clear n_HB n_BKQ n_BKA n_BKB
              obtain ⟨f, hf⟩ : ∃ f : Die, f = ⟨a0, a1, a2, a3, a4, a5⟩ := ⟨_, rfl⟩
              rw [show DiF.six a0 a1 a2 a3 a4 a5 = sx f from by rw [hf]]
              clear hf hb a0 a1 a2 a3 a4 a5
              go_upto_region 39 with fail
              have n_HB := Go.Lib.hid (HB.out.alloc HB.out.size (.cells (sx f) 25))
              have n_BKQ := Go.Lib.hid (blk_alloc BKQ.out (.cells (sx f) 25))
              have n_BKA := Go.Lib.hid (blk_alloc BKA.out (.cells (sx f) 25))
              have n_BKB := Go.Lib.hid (blk_alloc BKB.out (.cells (sx f) 25))
              have n_BKF := Go.Lib.hid (blk_new w57 (.cells (sx f) 25))
              obtain ⟨bF, hbF⟩ : ∃ b, b = w57.heap.size := ⟨_, rfl⟩
              have HFF := Go.Lib.hid (show w.heap.size ≤ bF from by rw [hbF]; exact HB.out.size)
              have NEQF := Go.Lib.hid (show bQ ≠ bF from by have h_ := (Array.getElem?_eq_some_iff.1 BKQ.out).1; omega)
              have NEAF := Go.Lib.hid (show bA ≠ bF from by have h_ := (Array.getElem?_eq_some_iff.1 BKA.out).1; omega)
              have NEBF := Go.Lib.hid (show bB ≠ bF from by have h_ := (Array.getElem?_eq_some_iff.1 BKB.out).1; omega)
              rw [← hbF] at n_BKF ⊢
              clear hbF HB BKQ BKA BKB
              generalize World.alloc _ _ = w58 at n_HB n_BKQ n_BKA n_BKB n_BKF ⊢
              have HB := n_HB
              have BKQ := n_BKQ
              have BKA := n_BKA
              have BKB := n_BKB
              have BKF := n_BKF
              clear n_HB n_BKQ n_BKA n_BKB n_BKF
              obtain ⟨tc, htc⟩ : ∃ x, x = tdD f k := ⟨_, rfl⟩
              have HTC := Go.Lib.hid htc
              obtain ⟨tb, htb⟩ : ∃ x, x = tdB f k := ⟨_, rfl⟩
              have HTB := Go.Lib.hid htb.symm
              have HTB2 := Go.Lib.hid htb
              clear htc htb
              have cF0 : w58.cell? ⟨bF, 0, none⟩ = some (.int .i64 f.t) := blk_cell BKF.out 0
              have cF1 : w58.cell? ⟨bF, 1, none⟩ = some (.int .i64 f.n) := blk_cell BKF.out 1
              have cF2 : w58.cell? ⟨bF, 2, none⟩ = some (.int .i64 f.e) := blk_cell BKF.out 2
              have cF3 : w58.cell? ⟨bF, 3, none⟩ = some (.int .i64 f.s) := blk_cell BKF.out 3
              have cF4 : w58.cell? ⟨bF, 4, none⟩ = some (.int .i64 f.w) := blk_cell BKF.out 4
              have cF5 : w58.cell? ⟨bF, 5, none⟩ = some (.int .i64 f.b) := blk_cell BKF.out 5
              go_wp2_with fail
              refine (turnDieI f k _).mono ?_
              rintro e w59 ⟨rfl, hb⟩
              have n_HB := Go.Lib.hid (below_then HB.out HB.out.size hb)
              have n_BKQ := Go.Lib.hid (blk_below BKQ.out hb)
              have n_BKA := Go.Lib.hid (blk_below BKA.out hb)
              have n_BKB := Go.Lib.hid (blk_below BKB.out hb)
              have n_BKF := Go.Lib.hid (blk_below BKF.out hb)
              clear HB BKQ BKA BKB BKF
              have HB := n_HB
              have BKQ := n_BKQ
              have BKA := n_BKA
              have BKB := n_BKB
              have BKF := n_BKF
              clear n_HB n_BKQ n_BKA n_BKB n_BKF
              clear hb
              clear cF0 cF1 cF2 cF3 cF4 cF5
              rw [← HTC.out, ← HTB2.out]
              go_upto_region 40 with fail
              have n_HB := Go.Lib.hid (HB.out.alloc HB.out.size (.cells (sx tc) 25))
              have n_BKQ := Go.Lib.hid (blk_alloc BKQ.out (.cells (sx tc) 25))
              have n_BKA := Go.Lib.hid (blk_alloc BKA.out (.cells (sx tc) 25))
              have n_BKB := Go.Lib.hid (blk_alloc BKB.out (.cells (sx tc) 25))
              have n_BKF := Go.Lib.hid (blk_alloc BKF.out (.cells (sx tc) 25))
              have n_BKC := Go.Lib.hid (blk_new w59 (.cells (sx tc) 25))
              obtain ⟨bC, hbC⟩ : ∃ b, b = w59.heap.size := ⟨_, rfl⟩
              have HFC := Go.Lib.hid (show w.heap.size ≤ bC from by rw [hbC]; exact HB.out.size)
              have NEQC := Go.Lib.hid (show bQ ≠ bC from by have h_ := (Array.getElem?_eq_some_iff.1 BKQ.out).1; omega)
              have NEAC := Go.Lib.hid (show bA ≠ bC from by have h_ := (Array.getElem?_eq_some_iff.1 BKA.out).1; omega)
              have NEBC := Go.Lib.hid (show bB ≠ bC from by have h_ := (Array.getElem?_eq_some_iff.1 BKB.out).1; omega)
              have NEFC := Go.Lib.hid (show bF ≠ bC from by have h_ := (Array.getElem?_eq_some_iff.1 BKF.out).1; omega)
              rw [← hbC] at n_BKC ⊢
              clear hbC HB BKQ BKA BKB BKF
              generalize World.alloc _ _ = w60 at n_HB n_BKQ n_BKA n_BKB n_BKF n_BKC ⊢
              have HB := n_HB
              have BKQ := n_BKQ
              have BKA := n_BKA
              have BKB := n_BKB
              have BKF := n_BKF
              have BKC := n_BKC
              clear n_HB n_BKQ n_BKA n_BKB n_BKF n_BKC
              have cF0 : w60.cell? ⟨bF, 0, none⟩ = some (.int .i64 f.t) := blk_cell BKF.out 0
              have cF1 : w60.cell? ⟨bF, 1, none⟩ = some (.int .i64 f.n) := blk_cell BKF.out 1
              have cF2 : w60.cell? ⟨bF, 2, none⟩ = some (.int .i64 f.e) := blk_cell BKF.out 2
              have cF3 : w60.cell? ⟨bF, 3, none⟩ = some (.int .i64 f.s) := blk_cell BKF.out 3
              have cF4 : w60.cell? ⟨bF, 4, none⟩ = some (.int .i64 f.w) := blk_cell BKF.out 4
              have cF5 : w60.cell? ⟨bF, 5, none⟩ = some (.int .i64 f.b) := blk_cell BKF.out 5
              go_wp2_with fail
              refine (turnDieS f k _).mono ?_
              rintro e w61 ⟨rfl, hb⟩
              have n_HB := Go.Lib.hid (below_then HB.out HB.out.size hb)
              have n_BKQ := Go.Lib.hid (blk_below BKQ.out hb)
              have n_BKA := Go.Lib.hid (blk_below BKA.out hb)
              have n_BKB := Go.Lib.hid (blk_below BKB.out hb)
              have n_BKF := Go.Lib.hid (blk_below BKF.out hb)
              have n_BKC := Go.Lib.hid (blk_below BKC.out hb)
              clear HB BKQ BKA BKB BKF BKC
              have HB := n_HB
              have BKQ := n_BKQ
              have BKA := n_BKA
              have BKB := n_BKB
              have BKF := n_BKF
              have BKC := n_BKC
              clear n_HB n_BKQ n_BKA n_BKB n_BKF n_BKC
              clear hb
              clear cF0 cF1 cF2 cF3 cF4 cF5
              rw [← HTC.out, ← HTB2.out]
              go_upto_region 41 with fail
              have n_HB := Go.Lib.hid (HB.out.alloc HB.out.size (.cells (sx tc) 25))
              have n_BKQ := Go.Lib.hid (blk_alloc BKQ.out (.cells (sx tc) 25))
              have n_BKA := Go.Lib.hid (blk_alloc BKA.out (.cells (sx tc) 25))
              have n_BKB := Go.Lib.hid (blk_alloc BKB.out (.cells (sx tc) 25))
              have n_BKF := Go.Lib.hid (blk_alloc BKF.out (.cells (sx tc) 25))
              have n_BKC := Go.Lib.hid (blk_alloc BKC.out (.cells (sx tc) 25))
              have n_BKM := Go.Lib.hid (blk_new w61 (.cells (sx tc) 25))
              obtain ⟨bM, hbM⟩ : ∃ b, b = w61.heap.size := ⟨_, rfl⟩
              have HFM := Go.Lib.hid (show w.heap.size ≤ bM from by rw [hbM]; exact HB.out.size)
              have NEQM := Go.Lib.hid (show bQ ≠ bM from by have h_ := (Array.getElem?_eq_some_iff.1 BKQ.out).1; omega)
              have NEAM := Go.Lib.hid (show bA ≠ bM from by have h_ := (Array.getElem?_eq_some_iff.1 BKA.out).1; omega)
              have NEBM := Go.Lib.hid (show bB ≠ bM from by have h_ := (Array.getElem?_eq_some_iff.1 BKB.out).1; omega)
              have NEFM := Go.Lib.hid (show bF ≠ bM from by have h_ := (Array.getElem?_eq_some_iff.1 BKF.out).1; omega)
              have NECM := Go.Lib.hid (show bC ≠ bM from by have h_ := (Array.getElem?_eq_some_iff.1 BKC.out).1; omega)
              rw [← hbM] at n_BKM ⊢
              clear hbM HB BKQ BKA BKB BKF BKC
              generalize World.alloc _ _ = w62 at n_HB n_BKQ n_BKA n_BKB n_BKF n_BKC n_BKM ⊢
              have HB := n_HB
              have BKQ := n_BKQ
              have BKA := n_BKA
              have BKB := n_BKB
              have BKF := n_BKF
              have BKC := n_BKC
              have BKM := n_BKM
              clear n_HB n_BKQ n_BKA n_BKB n_BKF n_BKC n_BKM
              have cA0 : w62.cell? ⟨bA, 0, none⟩ = some (.int .i64 ra.t) := blk_cell BKA.out 0
              have cA1 : w62.cell? ⟨bA, 1, none⟩ = some (.int .i64 ra.n) := blk_cell BKA.out 1
              have cA2 : w62.cell? ⟨bA, 2, none⟩ = some (.int .i64 ra.e) := blk_cell BKA.out 2
              have cA3 : w62.cell? ⟨bA, 3, none⟩ = some (.int .i64 ra.s) := blk_cell BKA.out 3
              have cA4 : w62.cell? ⟨bA, 4, none⟩ = some (.int .i64 ra.w) := blk_cell BKA.out 4
              have cA5 : w62.cell? ⟨bA, 5, none⟩ = some (.int .i64 ra.b) := blk_cell BKA.out 5
              have cB0 : w62.cell? ⟨bB, 0, none⟩ = some (.int .i64 ra.t) := blk_cell BKB.out 0
              have cB1 : w62.cell? ⟨bB, 1, none⟩ = some (.int .i64 ra.n) := blk_cell BKB.out 1
              have cB2 : w62.cell? ⟨bB, 2, none⟩ = some (.int .i64 ra.e) := blk_cell BKB.out 2
              have cB3 : w62.cell? ⟨bB, 3, none⟩ = some (.int .i64 ra.s) := blk_cell BKB.out 3
              have cB4 : w62.cell? ⟨bB, 4, none⟩ = some (.int .i64 ra.w) := blk_cell BKB.out 4
              have cB5 : w62.cell? ⟨bB, 5, none⟩ = some (.int .i64 ra.b) := blk_cell BKB.out 5
              have cC0 : w62.cell? ⟨bC, 0, none⟩ = some (.int .i64 tc.t) := blk_cell BKC.out 0
              have cC1 : w62.cell? ⟨bC, 1, none⟩ = some (.int .i64 tc.n) := blk_cell BKC.out 1
              have cC2 : w62.cell? ⟨bC, 2, none⟩ = some (.int .i64 tc.e) := blk_cell BKC.out 2
              have cC3 : w62.cell? ⟨bC, 3, none⟩ = some (.int .i64 tc.s) := blk_cell BKC.out 3
              have cC4 : w62.cell? ⟨bC, 4, none⟩ = some (.int .i64 tc.w) := blk_cell BKC.out 4
              have cC5 : w62.cell? ⟨bC, 5, none⟩ = some (.int .i64 tc.b) := blk_cell BKC.out 5
              have cM0 : w62.cell? ⟨bM, 0, none⟩ = some (.int .i64 tc.t) := blk_cell BKM.out 0
              have cM1 : w62.cell? ⟨bM, 1, none⟩ = some (.int .i64 tc.n) := blk_cell BKM.out 1
              have cM2 : w62.cell? ⟨bM, 2, none⟩ = some (.int .i64 tc.e) := blk_cell BKM.out 2
              have cM3 : w62.cell? ⟨bM, 3, none⟩ = some (.int .i64 tc.s) := blk_cell BKM.out 3
              have cM4 : w62.cell? ⟨bM, 4, none⟩ = some (.int .i64 tc.w) := blk_cell BKM.out 4
              have cM5 : w62.cell? ⟨bM, 5, none⟩ = some (.int .i64 tc.b) := blk_cell BKM.out 5
              go_upto_region 43 with fail
              clear cA0 cA1 cA2 cA3 cA4 cA5 cB0 cB1 cB2 cB3 cB4 cB5 cC0 cC1 cC2 cC3 cC4 cC5 cM0 cM1 cM2 cM3 cM4 cM5
              clear BKB
              clear BKM
              cases rb with
              | true =>
                have hrn := rn_ok HRB.out.symm
                have HRN := Go.Lib.hid hrn
                clear hrn
                have cA0 : w62.cell? ⟨bA, 0, none⟩ = some (.int .i64 ra.t) := blk_cell BKA.out 0
                have cA1 : w62.cell? ⟨bA, 1, none⟩ = some (.int .i64 ra.n) := blk_cell BKA.out 1
                have cA2 : w62.cell? ⟨bA, 2, none⟩ = some (.int .i64 ra.e) := blk_cell BKA.out 2
                have cA3 : w62.cell? ⟨bA, 3, none⟩ = some (.int .i64 ra.s) := blk_cell BKA.out 3
                have cA4 : w62.cell? ⟨bA, 4, none⟩ = some (.int .i64 ra.w) := blk_cell BKA.out 4
                have cA5 : w62.cell? ⟨bA, 5, none⟩ = some (.int .i64 ra.b) := blk_cell BKA.out 5
                go_upto_region 44 with fail
                go_upto_region 45 with fail
                have n_HB := Go.Lib.hid (HB.out.alloc HB.out.size (.cells (sx ra) 25))
                have n_BKQ := Go.Lib.hid (blk_alloc BKQ.out (.cells (sx ra) 25))
                have n_BKA := Go.Lib.hid (blk_alloc BKA.out (.cells (sx ra) 25))
                have n_BKF := Go.Lib.hid (blk_alloc BKF.out (.cells (sx ra) 25))
                have n_BKC := Go.Lib.hid (blk_alloc BKC.out (.cells (sx ra) 25))
                have n_BKN := Go.Lib.hid (blk_new w62 (.cells (sx ra) 25))
                obtain ⟨bN, hbN⟩ : ∃ b, b = w62.heap.size := ⟨_, rfl⟩
                have HFN := Go.Lib.hid (show w.heap.size ≤ bN from by rw [hbN]; exact HB.out.size)
                have NEQN := Go.Lib.hid (show bQ ≠ bN from by have h_ := (Array.getElem?_eq_some_iff.1 BKQ.out).1; omega)
                have NEAN := Go.Lib.hid (show bA ≠ bN from by have h_ := (Array.getElem?_eq_some_iff.1 BKA.out).1; omega)
                have NEFN := Go.Lib.hid (show bF ≠ bN from by have h_ := (Array.getElem?_eq_some_iff.1 BKF.out).1; omega)
                have NECN := Go.Lib.hid (show bC ≠ bN from by have h_ := (Array.getElem?_eq_some_iff.1 BKC.out).1; omega)
                rw [← hbN] at n_BKN ⊢
                clear hbN HB BKQ BKA BKF BKC
                generalize World.alloc _ _ = w63 at n_HB n_BKQ n_BKA n_BKF n_BKC n_BKN ⊢
                have HB := n_HB
                have BKQ := n_BKQ
                have BKA := n_BKA
                have BKF := n_BKF
                have BKC := n_BKC
                have BKN := n_BKN
                clear n_HB n_BKQ n_BKA n_BKF n_BKC n_BKN
                clear cA0 cA1 cA2 cA3 cA4 cA5
                clear BKA
                have HN1 := Go.Lib.hid (show ra = rn q t 1 from HRA.out)
                rw [HN1.out] at BKN
                go_wp2_with fail
                go_loopw [44] (fun v44 wr => ∃ i : Nat, v44 = .int .i64 (i : Int) ∧ i ≤ 3 ∧ Blk wr bN (rn q t (i + 1)) ∧ Blk wr bQ q ∧ Blk wr bF f ∧ Blk wr bC tc ∧ Below w.heap.size w wr) (fun v44 _ => 3 - (intOf v44).toNat)
                case atStart => exact ⟨0, rfl, by omega, BKN.out, BKQ.out, BKF.out, BKC.out, HB.out⟩
                case round =>
                  clear HB BKN BKQ BKF BKC
                  obtain ⟨i, rfl, hi, hN, hQ, hF, hC, hb⟩ := hrel
                  have BKN := Go.Lib.hid hN
                  have BKQ := Go.Lib.hid hQ
                  have BKF := Go.Lib.hid hF
                  have BKC := Go.Lib.hid hC
                  have HB := Go.Lib.hid hb
                  clear hN hQ hF hC hb
                  obtain ⟨x, hx⟩ : ∃ x, x = rn q t (i + 1) := ⟨_, rfl⟩
                  have HX := Go.Lib.hid hx
                  rw [← hx] at BKN
                  clear hx
                  by_cases h3 : i < 3
                  · have q1 : (i : Int) < 3 := by omega
                    have q2 : IntKind.i64.wrap ((i : Int) + 1) = ((i + 1 : Nat) : Int) := by rw [IntKind.wrap_i64]; omega
                    have HI := Go.Lib.hid h3
                    clear hi h3
                    have cN0 : wr.cell? ⟨bN, 0, none⟩ = some (.int .i64 x.t) := blk_cell BKN.out 0
                    have cN1 : wr.cell? ⟨bN, 1, none⟩ = some (.int .i64 x.n) := blk_cell BKN.out 1
                    have cN2 : wr.cell? ⟨bN, 2, none⟩ = some (.int .i64 x.e) := blk_cell BKN.out 2
                    have cN3 : wr.cell? ⟨bN, 3, none⟩ = some (.int .i64 x.s) := blk_cell BKN.out 3
                    have cN4 : wr.cell? ⟨bN, 4, none⟩ = some (.int .i64 x.w) := blk_cell BKN.out 4
                    have cN5 : wr.cell? ⟨bN, 5, none⟩ = some (.int .i64 x.b) := blk_cell BKN.out 5
                    go_wp2_with fail
                    refine (rollDieI x t _).mono ?_
                    rintro e w64 ⟨rfl, hb⟩
                    have n_HB := Go.Lib.hid (below_then HB.out HB.out.size hb)
                    have n_BKQ := Go.Lib.hid (blk_below BKQ.out hb)
                    have n_BKF := Go.Lib.hid (blk_below BKF.out hb)
                    have n_BKC := Go.Lib.hid (blk_below BKC.out hb)
                    have n_BKN := Go.Lib.hid (blk_below BKN.out hb)
                    clear HB BKQ BKF BKC BKN
                    have HB := n_HB
                    have BKQ := n_BKQ
                    have BKF := n_BKF
                    have BKC := n_BKC
                    have BKN := n_BKN
                    clear n_HB n_BKQ n_BKF n_BKC n_BKN
                    clear hb
                    clear cN0 cN1 cN2 cN3 cN4 cN5
                    obtain ⟨y, hy⟩ : ∃ y, y = rn q t (i + 1 + 1) := ⟨_, rfl⟩
                    have HY := Go.Lib.hid hy
                    rw [show rdB x t = true from by rw [HX.out]; exact HRN.out.1 (i + 1), show rdD x t = y from by rw [HX.out, hy]; rfl]
                    clear hy
                    go_upto_region 49 with fail
                    have n_HB := Go.Lib.hid (HB.out.alloc HB.out.size (.cells (sx y) 25))
                    have n_BKQ := Go.Lib.hid (blk_alloc BKQ.out (.cells (sx y) 25))
                    have n_BKF := Go.Lib.hid (blk_alloc BKF.out (.cells (sx y) 25))
                    have n_BKC := Go.Lib.hid (blk_alloc BKC.out (.cells (sx y) 25))
                    have n_BKN := Go.Lib.hid (blk_alloc BKN.out (.cells (sx y) 25))
                    have n_BKY := Go.Lib.hid (blk_new w64 (.cells (sx y) 25))
                    obtain ⟨bY, hbY⟩ : ∃ b, b = w64.heap.size := ⟨_, rfl⟩
                    have HFY := Go.Lib.hid (show w.heap.size ≤ bY from by rw [hbY]; exact HB.out.size)
                    have NEQY := Go.Lib.hid (show bQ ≠ bY from by have h_ := (Array.getElem?_eq_some_iff.1 BKQ.out).1; omega)
                    have NEFY := Go.Lib.hid (show bF ≠ bY from by have h_ := (Array.getElem?_eq_some_iff.1 BKF.out).1; omega)
                    have NECY := Go.Lib.hid (show bC ≠ bY from by have h_ := (Array.getElem?_eq_some_iff.1 BKC.out).1; omega)
                    have NENY := Go.Lib.hid (show bN ≠ bY from by have h_ := (Array.getElem?_eq_some_iff.1 BKN.out).1; omega)
                    rw [← hbY] at n_BKY ⊢
                    clear hbY HB BKQ BKF BKC BKN
                    generalize World.alloc _ _ = w65 at n_HB n_BKQ n_BKF n_BKC n_BKN n_BKY ⊢
                    have HB := n_HB
                    have BKQ := n_BKQ
                    have BKF := n_BKF
                    have BKC := n_BKC
                    have BKN := n_BKN
                    have BKY := n_BKY
                    clear n_HB n_BKQ n_BKF n_BKC n_BKN n_BKY
                    have cY0 : w65.cell? ⟨bY, 0, none⟩ = some (.int .i64 y.t) := blk_cell BKY.out 0
                    have cY1 : w65.cell? ⟨bY, 1, none⟩ = some (.int .i64 y.n) := blk_cell BKY.out 1
                    have cY2 : w65.cell? ⟨bY, 2, none⟩ = some (.int .i64 y.e) := blk_cell BKY.out 2
                    have cY3 : w65.cell? ⟨bY, 3, none⟩ = some (.int .i64 y.s) := blk_cell BKY.out 3
                    have cY4 : w65.cell? ⟨bY, 4, none⟩ = some (.int .i64 y.w) := blk_cell BKY.out 4
                    have cY5 : w65.cell? ⟨bY, 5, none⟩ = some (.int .i64 y.b) := blk_cell BKY.out 5
                    have cN0 : w65.cell? ⟨bN, 0, none⟩ = some (.int .i64 x.t) := blk_cell BKN.out 0
                    have cN1 : w65.cell? ⟨bN, 1, none⟩ = some (.int .i64 x.n) := blk_cell BKN.out 1
                    have cN2 : w65.cell? ⟨bN, 2, none⟩ = some (.int .i64 x.e) := blk_cell BKN.out 2
                    have cN3 : w65.cell? ⟨bN, 3, none⟩ = some (.int .i64 x.s) := blk_cell BKN.out 3
                    have cN4 : w65.cell? ⟨bN, 4, none⟩ = some (.int .i64 x.w) := blk_cell BKN.out 4
                    have cN5 : w65.cell? ⟨bN, 5, none⟩ = some (.int .i64 x.b) := blk_cell BKN.out 5
                    have fN0 := blk_frozen BKN.out 0
                    have fN1 := blk_frozen BKN.out 1
                    have fN2 := blk_frozen BKN.out 2
                    have fN3 := blk_frozen BKN.out 3
                    have fN4 := blk_frozen BKN.out 4
                    have fN5 := blk_frozen BKN.out 5
                    go_wp2_with fail
                    exact ⟨⟨i + 1, by rw [Int.natCast_add]; rfl, HI.out, by rw [← HY.out]; exact Draw.put6_blk BKN.out y.t y.n y.e y.s y.w y.b, put6_far BKQ.out NEQN.out _ _ _ _ _ _, put6_far BKF.out NEFN.out _ _ _ _ _ _, put6_far BKC.out NECN.out _ _ _ _ _ _, Draw.put6_below HB.out HFN.out y.t y.n y.e y.s y.w y.b⟩, by have h_ := HI.out; simp [intOf]; omega⟩
                  · obtain rfl : i = 3 := by omega
                    clear hi h3
                    have hxq : x = q := HX.out.trans HRN.out.2
                    subst hxq
                    have cN0 : wr.cell? ⟨bN, 0, none⟩ = some (.int .i64 x.t) := blk_cell BKN.out 0
                    have cN1 : wr.cell? ⟨bN, 1, none⟩ = some (.int .i64 x.n) := blk_cell BKN.out 1
                    have cN2 : wr.cell? ⟨bN, 2, none⟩ = some (.int .i64 x.e) := blk_cell BKN.out 2
                    have cN3 : wr.cell? ⟨bN, 3, none⟩ = some (.int .i64 x.s) := blk_cell BKN.out 3
                    have cN4 : wr.cell? ⟨bN, 4, none⟩ = some (.int .i64 x.w) := blk_cell BKN.out 4
                    have cN5 : wr.cell? ⟨bN, 5, none⟩ = some (.int .i64 x.b) := blk_cell BKN.out 5
                    have cQ0 : wr.cell? ⟨bQ, 0, none⟩ = some (.int .i64 x.t) := blk_cell BKQ.out 0
                    have cQ1 : wr.cell? ⟨bQ, 1, none⟩ = some (.int .i64 x.n) := blk_cell BKQ.out 1
                    have cQ2 : wr.cell? ⟨bQ, 2, none⟩ = some (.int .i64 x.e) := blk_cell BKQ.out 2
                    have cQ3 : wr.cell? ⟨bQ, 3, none⟩ = some (.int .i64 x.s) := blk_cell BKQ.out 3
                    have cQ4 : wr.cell? ⟨bQ, 4, none⟩ = some (.int .i64 x.w) := blk_cell BKQ.out 4
                    have cQ5 : wr.cell? ⟨bQ, 5, none⟩ = some (.int .i64 x.b) := blk_cell BKQ.out 5
                    go_upto_region 54 with fail
                    clear cN0 cN1 cN2 cN3 cN4 cN5 cQ0 cQ1 cQ2 cQ3 cQ4 cQ5
                    clear BKN
                    cases tb with
                    | true =>
                      obtain ⟨m, hm, hm1, hm2, hm3, hm4⟩ := turn_home HTB.out
                      rw [← HTC.out] at hm1 hm2 hm3 hm4
                      have hm5 : IntKind.i64.wrap (4 - k) = wrap64 (4 - k) := i64_w _
                      have cC0 : wr.cell? ⟨bC, 0, none⟩ = some (.int .i64 tc.t) := blk_cell BKC.out 0
                      have cC1 : wr.cell? ⟨bC, 1, none⟩ = some (.int .i64 tc.n) := blk_cell BKC.out 1
                      have cC2 : wr.cell? ⟨bC, 2, none⟩ = some (.int .i64 tc.e) := blk_cell BKC.out 2
                      have cC3 : wr.cell? ⟨bC, 3, none⟩ = some (.int .i64 tc.s) := blk_cell BKC.out 3
                      have cC4 : wr.cell? ⟨bC, 4, none⟩ = some (.int .i64 tc.w) := blk_cell BKC.out 4
                      have cC5 : wr.cell? ⟨bC, 5, none⟩ = some (.int .i64 tc.b) := blk_cell BKC.out 5
                      go_wp2_with fail
                      refine (turnDieI tc m _).mono ?_
                      rintro e w66 ⟨rfl, hb⟩
                      have n_HB := Go.Lib.hid (below_then HB.out HB.out.size hb)
                      have n_BKQ := Go.Lib.hid (blk_below BKQ.out hb)
                      have n_BKF := Go.Lib.hid (blk_below BKF.out hb)
                      have n_BKC := Go.Lib.hid (blk_below BKC.out hb)
                      clear HB BKQ BKF BKC
                      have HB := n_HB
                      have BKQ := n_BKQ
                      have BKF := n_BKF
                      have BKC := n_BKC
                      clear n_HB n_BKQ n_BKF n_BKC
                      clear hb
                      clear cC0 cC1 cC2 cC3 cC4 cC5
                      rw [hm1, hm2]
                      go_upto_region 56 with fail
                      have n_HB := Go.Lib.hid (HB.out.alloc HB.out.size (.cells (sx f) 25))
                      have n_BKQ := Go.Lib.hid (blk_alloc BKQ.out (.cells (sx f) 25))
                      have n_BKF := Go.Lib.hid (blk_alloc BKF.out (.cells (sx f) 25))
                      have n_BKC := Go.Lib.hid (blk_alloc BKC.out (.cells (sx f) 25))
                      have n_BKK := Go.Lib.hid (blk_new w66 (.cells (sx f) 25))
                      obtain ⟨bK, hbK⟩ : ∃ b, b = w66.heap.size := ⟨_, rfl⟩
                      have HFK := Go.Lib.hid (show w.heap.size ≤ bK from by rw [hbK]; exact HB.out.size)
                      have NEQK := Go.Lib.hid (show bQ ≠ bK from by have h_ := (Array.getElem?_eq_some_iff.1 BKQ.out).1; omega)
                      have NEFK := Go.Lib.hid (show bF ≠ bK from by have h_ := (Array.getElem?_eq_some_iff.1 BKF.out).1; omega)
                      have NECK := Go.Lib.hid (show bC ≠ bK from by have h_ := (Array.getElem?_eq_some_iff.1 BKC.out).1; omega)
                      rw [← hbK] at n_BKK ⊢
                      clear hbK HB BKQ BKF BKC
                      generalize World.alloc _ _ = w67 at n_HB n_BKQ n_BKF n_BKC n_BKK ⊢
                      have HB := n_HB
                      have BKQ := n_BKQ
                      have BKF := n_BKF
                      have BKC := n_BKC
                      have BKK := n_BKK
                      clear n_HB n_BKQ n_BKF n_BKC n_BKK
                      have cF0 : w67.cell? ⟨bF, 0, none⟩ = some (.int .i64 f.t) := blk_cell BKF.out 0
                      have cF1 : w67.cell? ⟨bF, 1, none⟩ = some (.int .i64 f.n) := blk_cell BKF.out 1
                      have cF2 : w67.cell? ⟨bF, 2, none⟩ = some (.int .i64 f.e) := blk_cell BKF.out 2
                      have cF3 : w67.cell? ⟨bF, 3, none⟩ = some (.int .i64 f.s) := blk_cell BKF.out 3
                      have cF4 : w67.cell? ⟨bF, 4, none⟩ = some (.int .i64 f.w) := blk_cell BKF.out 4
                      have cF5 : w67.cell? ⟨bF, 5, none⟩ = some (.int .i64 f.b) := blk_cell BKF.out 5
                      have cC0 : w67.cell? ⟨bC, 0, none⟩ = some (.int .i64 tc.t) := blk_cell BKC.out 0
                      have cC1 : w67.cell? ⟨bC, 1, none⟩ = some (.int .i64 tc.n) := blk_cell BKC.out 1
                      have cC2 : w67.cell? ⟨bC, 2, none⟩ = some (.int .i64 tc.e) := blk_cell BKC.out 2
                      have cC3 : w67.cell? ⟨bC, 3, none⟩ = some (.int .i64 tc.s) := blk_cell BKC.out 3
                      have cC4 : w67.cell? ⟨bC, 4, none⟩ = some (.int .i64 tc.w) := blk_cell BKC.out 4
                      have cC5 : w67.cell? ⟨bC, 5, none⟩ = some (.int .i64 tc.b) := blk_cell BKC.out 5
                      go_wp2_with fail
                      refine (isTurned f tc _).mono ?_
                      rintro e w68 ⟨rfl, hb⟩
                      have n_HB := Go.Lib.hid (below_then HB.out HB.out.size hb)
                      have n_BKQ := Go.Lib.hid (blk_below BKQ.out hb)
                      have n_BKF := Go.Lib.hid (blk_below BKF.out hb)
                      have n_BKC := Go.Lib.hid (blk_below BKC.out hb)
                      have n_BKK := Go.Lib.hid (blk_below BKK.out hb)
                      clear HB BKQ BKF BKC BKK
                      have HB := n_HB
                      have BKQ := n_BKQ
                      have BKF := n_BKF
                      have BKC := n_BKC
                      have BKK := n_BKK
                      clear n_HB n_BKQ n_BKF n_BKC n_BKK
                      clear hb
                      clear cF0 cF1 cF2 cF3 cF4 cF5 cC0 cC1 cC2 cC3 cC4 cC5
                      rw [hm3, hm4]
                      have cK0 : w68.cell? ⟨bK, 0, none⟩ = some (.int .i64 f.t) := blk_cell BKK.out 0
                      have cK1 : w68.cell? ⟨bK, 1, none⟩ = some (.int .i64 f.n) := blk_cell BKK.out 1
                      have cK2 : w68.cell? ⟨bK, 2, none⟩ = some (.int .i64 f.e) := blk_cell BKK.out 2
                      have cK3 : w68.cell? ⟨bK, 3, none⟩ = some (.int .i64 f.s) := blk_cell BKK.out 3
                      have cK4 : w68.cell? ⟨bK, 4, none⟩ = some (.int .i64 f.w) := blk_cell BKK.out 4
                      have cK5 : w68.cell? ⟨bK, 5, none⟩ = some (.int .i64 f.b) := blk_cell BKK.out 5
                      have cF0 : w68.cell? ⟨bF, 0, none⟩ = some (.int .i64 f.t) := blk_cell BKF.out 0
                      have cF1 : w68.cell? ⟨bF, 1, none⟩ = some (.int .i64 f.n) := blk_cell BKF.out 1
                      have cF2 : w68.cell? ⟨bF, 2, none⟩ = some (.int .i64 f.e) := blk_cell BKF.out 2
                      have cF3 : w68.cell? ⟨bF, 3, none⟩ = some (.int .i64 f.s) := blk_cell BKF.out 3
                      have cF4 : w68.cell? ⟨bF, 4, none⟩ = some (.int .i64 f.w) := blk_cell BKF.out 4
                      have cF5 : w68.cell? ⟨bF, 5, none⟩ = some (.int .i64 f.b) := blk_cell BKF.out 5
                      go_wp2_with fail
                      go_ret
                      exact ⟨rfl, HB.out⟩
                    | false =>
                      go_wp2_with fail
                      go_ret
                      exact ⟨rfl, HB.out⟩
              | false =>
                go_upto_region 54 with fail
                cases tb with
                | true =>
                  obtain ⟨m, hm, hm1, hm2, hm3, hm4⟩ := turn_home HTB.out
                  rw [← HTC.out] at hm1 hm2 hm3 hm4
                  have hm5 : IntKind.i64.wrap (4 - k) = wrap64 (4 - k) := i64_w _
                  have cC0 : w62.cell? ⟨bC, 0, none⟩ = some (.int .i64 tc.t) := blk_cell BKC.out 0
                  have cC1 : w62.cell? ⟨bC, 1, none⟩ = some (.int .i64 tc.n) := blk_cell BKC.out 1
                  have cC2 : w62.cell? ⟨bC, 2, none⟩ = some (.int .i64 tc.e) := blk_cell BKC.out 2
                  have cC3 : w62.cell? ⟨bC, 3, none⟩ = some (.int .i64 tc.s) := blk_cell BKC.out 3
                  have cC4 : w62.cell? ⟨bC, 4, none⟩ = some (.int .i64 tc.w) := blk_cell BKC.out 4
                  have cC5 : w62.cell? ⟨bC, 5, none⟩ = some (.int .i64 tc.b) := blk_cell BKC.out 5
                  go_wp2_with fail
                  refine (turnDieI tc m _).mono ?_
                  rintro e w69 ⟨rfl, hb⟩
                  have n_HB := Go.Lib.hid (below_then HB.out HB.out.size hb)
                  have n_BKQ := Go.Lib.hid (blk_below BKQ.out hb)
                  have n_BKA := Go.Lib.hid (blk_below BKA.out hb)
                  have n_BKF := Go.Lib.hid (blk_below BKF.out hb)
                  have n_BKC := Go.Lib.hid (blk_below BKC.out hb)
                  clear HB BKQ BKA BKF BKC
                  have HB := n_HB
                  have BKQ := n_BKQ
                  have BKA := n_BKA
                  have BKF := n_BKF
                  have BKC := n_BKC
                  clear n_HB n_BKQ n_BKA n_BKF n_BKC
                  clear hb
                  clear cC0 cC1 cC2 cC3 cC4 cC5
                  rw [hm1, hm2]
                  go_upto_region 56 with fail
                  have n_HB := Go.Lib.hid (HB.out.alloc HB.out.size (.cells (sx f) 25))
                  have n_BKQ := Go.Lib.hid (blk_alloc BKQ.out (.cells (sx f) 25))
                  have n_BKA := Go.Lib.hid (blk_alloc BKA.out (.cells (sx f) 25))
                  have n_BKF := Go.Lib.hid (blk_alloc BKF.out (.cells (sx f) 25))
                  have n_BKC := Go.Lib.hid (blk_alloc BKC.out (.cells (sx f) 25))
                  have n_BKK := Go.Lib.hid (blk_new w69 (.cells (sx f) 25))
                  obtain ⟨bK, hbK⟩ : ∃ b, b = w69.heap.size := ⟨_, rfl⟩
                  have HFK := Go.Lib.hid (show w.heap.size ≤ bK from by rw [hbK]; exact HB.out.size)
                  have NEQK := Go.Lib.hid (show bQ ≠ bK from by have h_ := (Array.getElem?_eq_some_iff.1 BKQ.out).1; omega)
                  have NEAK := Go.Lib.hid (show bA ≠ bK from by have h_ := (Array.getElem?_eq_some_iff.1 BKA.out).1; omega)
                  have NEFK := Go.Lib.hid (show bF ≠ bK from by have h_ := (Array.getElem?_eq_some_iff.1 BKF.out).1; omega)
                  have NECK := Go.Lib.hid (show bC ≠ bK from by have h_ := (Array.getElem?_eq_some_iff.1 BKC.out).1; omega)
                  rw [← hbK] at n_BKK ⊢
                  clear hbK HB BKQ BKA BKF BKC
                  generalize World.alloc _ _ = w70 at n_HB n_BKQ n_BKA n_BKF n_BKC n_BKK ⊢
                  have HB := n_HB
                  have BKQ := n_BKQ
                  have BKA := n_BKA
                  have BKF := n_BKF
                  have BKC := n_BKC
                  have BKK := n_BKK
                  clear n_HB n_BKQ n_BKA n_BKF n_BKC n_BKK
                  have cF0 : w70.cell? ⟨bF, 0, none⟩ = some (.int .i64 f.t) := blk_cell BKF.out 0
                  have cF1 : w70.cell? ⟨bF, 1, none⟩ = some (.int .i64 f.n) := blk_cell BKF.out 1
                  have cF2 : w70.cell? ⟨bF, 2, none⟩ = some (.int .i64 f.e) := blk_cell BKF.out 2
                  have cF3 : w70.cell? ⟨bF, 3, none⟩ = some (.int .i64 f.s) := blk_cell BKF.out 3
                  have cF4 : w70.cell? ⟨bF, 4, none⟩ = some (.int .i64 f.w) := blk_cell BKF.out 4
                  have cF5 : w70.cell? ⟨bF, 5, none⟩ = some (.int .i64 f.b) := blk_cell BKF.out 5
                  have cC0 : w70.cell? ⟨bC, 0, none⟩ = some (.int .i64 tc.t) := blk_cell BKC.out 0
                  have cC1 : w70.cell? ⟨bC, 1, none⟩ = some (.int .i64 tc.n) := blk_cell BKC.out 1
                  have cC2 : w70.cell? ⟨bC, 2, none⟩ = some (.int .i64 tc.e) := blk_cell BKC.out 2
                  have cC3 : w70.cell? ⟨bC, 3, none⟩ = some (.int .i64 tc.s) := blk_cell BKC.out 3
                  have cC4 : w70.cell? ⟨bC, 4, none⟩ = some (.int .i64 tc.w) := blk_cell BKC.out 4
                  have cC5 : w70.cell? ⟨bC, 5, none⟩ = some (.int .i64 tc.b) := blk_cell BKC.out 5
                  go_wp2_with fail
                  refine (isTurned f tc _).mono ?_
                  rintro e w71 ⟨rfl, hb⟩
                  have n_HB := Go.Lib.hid (below_then HB.out HB.out.size hb)
                  have n_BKQ := Go.Lib.hid (blk_below BKQ.out hb)
                  have n_BKA := Go.Lib.hid (blk_below BKA.out hb)
                  have n_BKF := Go.Lib.hid (blk_below BKF.out hb)
                  have n_BKC := Go.Lib.hid (blk_below BKC.out hb)
                  have n_BKK := Go.Lib.hid (blk_below BKK.out hb)
                  clear HB BKQ BKA BKF BKC BKK
                  have HB := n_HB
                  have BKQ := n_BKQ
                  have BKA := n_BKA
                  have BKF := n_BKF
                  have BKC := n_BKC
                  have BKK := n_BKK
                  clear n_HB n_BKQ n_BKA n_BKF n_BKC n_BKK
                  clear hb
                  clear cF0 cF1 cF2 cF3 cF4 cF5 cC0 cC1 cC2 cC3 cC4 cC5
                  rw [hm3, hm4]
                  have cK0 : w71.cell? ⟨bK, 0, none⟩ = some (.int .i64 f.t) := blk_cell BKK.out 0
                  have cK1 : w71.cell? ⟨bK, 1, none⟩ = some (.int .i64 f.n) := blk_cell BKK.out 1
                  have cK2 : w71.cell? ⟨bK, 2, none⟩ = some (.int .i64 f.e) := blk_cell BKK.out 2
                  have cK3 : w71.cell? ⟨bK, 3, none⟩ = some (.int .i64 f.s) := blk_cell BKK.out 3
                  have cK4 : w71.cell? ⟨bK, 4, none⟩ = some (.int .i64 f.w) := blk_cell BKK.out 4
                  have cK5 : w71.cell? ⟨bK, 5, none⟩ = some (.int .i64 f.b) := blk_cell BKK.out 5
                  have cF0 : w71.cell? ⟨bF, 0, none⟩ = some (.int .i64 f.t) := blk_cell BKF.out 0
                  have cF1 : w71.cell? ⟨bF, 1, none⟩ = some (.int .i64 f.n) := blk_cell BKF.out 1
                  have cF2 : w71.cell? ⟨bF, 2, none⟩ = some (.int .i64 f.e) := blk_cell BKF.out 2
                  have cF3 : w71.cell? ⟨bF, 3, none⟩ = some (.int .i64 f.s) := blk_cell BKF.out 3
                  have cF4 : w71.cell? ⟨bF, 4, none⟩ = some (.int .i64 f.w) := blk_cell BKF.out 4
                  have cF5 : w71.cell? ⟨bF, 5, none⟩ = some (.int .i64 f.b) := blk_cell BKF.out 5
                  go_wp2_with fail
                  go_ret
                  exact ⟨rfl, HB.out⟩
                | false =>
                  go_wp2_with fail
                  go_ret
                  exact ⟨rfl, HB.out⟩
end Go.Proofs.YtfcifidjjbknaaaDoor.RollW
