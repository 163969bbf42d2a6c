/- The program's tours, walked. Conditions: at most twelve cells with labels. -/
import Derived.Test.YtolopkjpodnmkaaDoorLabG
import Derived.Test.YtolopkjpodnmkaaDoorMapT
import Derived.Test.YtolopkjpodnmkaaDoorDeferB
import Derived.Test.YtolopkjpodnmkaaDoorTour
import Derived.Test.YtolopkjpodnmkaaDoorQBix
import Derived.OwnWalk
import Derived.Deep.LoopGhost
import Derived.Deep.QuietTactic
import Derived.BigQuiet
import Derived.Deep.CutBlock
import Derived.Deep.RegionHeld3
import Derived.Deep.RegionWith
import Derived.Deep.DeepCutAuto
import Derived.Lib.Hide
import Derived.Carry
import Derived.IntWalk
namespace Go.Proofs.YtolopkjpodnmkaaDoor.ToursI
open Go.RowKit Go.Proofs.YtolopkjpodnmkaaDoorW.PrintWords Go.Proofs.YtolopkjpodnmkaaDoorW.PrintLast Go.Proofs.YtolopkjpodnmkaaDoor.Board Go.Proofs.YtolopkjpodnmkaaDoor.BaseM Go.Proofs.YtolopkjpodnmkaaDoor.LabG Go.Proofs.YtolopkjpodnmkaaDoor.MapT Go.Proofs.YtolopkjpodnmkaaDoor.DeferB
open Go.Proofs.YtolopkjpodnmkaaDoor.Reach (St)
open Go.Proofs.YtolopkjpodnmkaaDoor.Tour (A sumTo isIn isIn_iff)
open Go.ChangeMaps (setBlock heap_setBlock_same heap_setBlock_other)
set_option linter.unusedVariables false
set_option linter.unusedSimpArgs false

abbrev st8 (t : St) : Array Value := #[.int .i64 t.x, .int .i64 t.y, .int .i64 t.d.t, .int .i64 t.d.n, .int .i64 t.d.e, .int .i64 t.d.s, .int .i64 t.d.w, .int .i64 t.d.b]
def byt (i : Nat) : Int := if i = 0 then 110 else if i = 1 then 101 else if i = 2 then 115 else 119
def letter (d : Nat) : ByteArray := if d = 0 then ⟨#[110]⟩ else if d = 1 then ⟨#[101]⟩ else if d = 2 then ⟨#[115]⟩ else ⟨#[119]⟩
theorem letter_size (d : Nat) : (letter d).size = 1 := by
  unfold letter
  split
  · rfl
  · split
    · rfl
    · split <;> rfl
set_option maxRecDepth 100000 in
theorem index_dir (i : Nat) (hi : i < 4) (W : World) : (Instr.index 9 (.string ⟨#[110, 101, 115, 119]⟩) (.int .i64 (i : Int))).run Tryd.prog W = .ok (.int .u8 (byt i)) W := by
  rcases i with _ | _ | _ | _ | i
  · go_simp; rfl
  · go_simp; rfl
  · go_simp; rfl
  · go_simp; rfl
  · omega
theorem slice_dir (i : Nat) (hi : i < 4) (W : World) : (Instr.slice 9 (.string ⟨#[110, 101, 115, 119]⟩) (some (.int .i64 (i : Int))) (some (.int .i64 ((i : Int) + 1))) none).run Tryd.prog W = .ok (.string (letter i)) W := by
  rcases i with _ | _ | _ | _ | i
  · go_simp; rfl
  · go_simp; rfl
  · go_simp; rfl
  · go_simp; rfl
  · omega
theorem zeroB (W : World) : (zeroValue 4).run Tryd.prog W = .ok (.bool false) W := by kernel_rfl
def cellOf (t : St) : Int × Int := (t.x, t.y)
theorem place_in {x : Int × Int} : ∀ {l : List (Int × Int)} {j : Nat}, (Maps.place x j l).isSome = isIn x l
  | [], j => rfl
  | y :: l, j => by
    unfold Maps.place isIn
    by_cases h : x = y
    · rw [if_pos h, if_pos h]
      rfl
    · rw [if_neg h, if_neg h]
      exact place_in
/-! ### What is kept but for the count and the map -/
structure Kp (C M : Nat) (w w' : World) : Prop where
  os : w'.os = w.os
  tape : w'.tape = w.tape
  output : w'.output = w.output
  size : w.heap.size ≤ w'.heap.size
  block : ∀ k, k < w.heap.size → k ≠ C → k ≠ M → w'.heap[k]? = w.heap[k]?
section
variable {C M : Nat} {w w1 w2 : World}
theorem kp_refl (w : World) : Kp C M w w := ⟨rfl, rfl, rfl, Nat.le_refl _, fun _ _ _ _ => rfl⟩
theorem kp_trans (h : Kp C M w w1) (k : Kp C M w1 w2) : Kp C M w w2 := ⟨k.os.trans h.os, k.tape.trans h.tape, k.output.trans h.output, Nat.le_trans h.size k.size, fun i hi h1 h2 => (k.block i (Nat.lt_of_lt_of_le hi h.size) h1 h2).trans (h.block i hi h1 h2)⟩
theorem kp_then (h : Kp C M w w1) (k : Below w1.heap.size w1 w2) : Kp C M w w2 := kp_trans h ⟨k.os, k.tape, k.output, k.size, fun i hi _ _ => k.block i hi⟩
theorem kp_alloc (h : Kp C M w w1) (o : Obj) : Kp C M w (w1.alloc o) := kp_then h ((Below.refl _ w1).alloc (Nat.le_refl _) o)
theorem kp_drew (h : Kp C M w w1) : Kp C M w w1.drew := ⟨h.os, h.tape, h.output, h.size, h.block⟩
theorem kp_set (h : Kp C M w w1) {g j : Nat} {v : Value} (hg : w.heap.size ≤ g ∨ g = C) : Kp C M w (w1.setCell ⟨g, j, none⟩ v) := by
  have hb := (Below.refl 0 w1).setCell (p := ⟨g, j, none⟩) (Nat.zero_le _) v
  refine ⟨hb.os.trans h.os, hb.tape.trans h.tape, hb.output.trans h.output, Nat.le_trans h.size hb.size, fun k hk h1 h2 => ?_⟩
  rw [Below.heap_setCell w1 ⟨g, j, none⟩ v k (by
    rcases hg with hg | hg
    · show k ≠ g
      omega
    · show k ≠ g
      rw [hg]
      exact h1)]
  exact h.block k hk h1 h2
theorem kp_map (h : Kp C M w w1) {es : Array MapEntry} {cl : Nat} (hM : w1.heap[M]? = some (.map es cl)) (o : Obj) : Kp C M w (setBlock w1 M o) :=
  ⟨h.os, h.tape, h.output, Nat.le_trans h.size (by simp [setBlock]), fun k hk h1 h2 => by
    rw [heap_setBlock_other hM o h2]
    exact h.block k hk h1 h2⟩
theorem kp_below {w5 : World} (h5 : Below w5.heap.size w5 w) (h : Kp C M w w1) (hC : w5.heap.size ≤ C) (hM : w5.heap.size ≤ M) : Below w5.heap.size w5 w1 :=
  ⟨h.os.trans h5.os, h.tape.trans h5.tape, h.output.trans h5.output, Nat.le_trans h5.size h.size, fun k hk => (h.block k (Nat.lt_of_lt_of_le hk h5.size) (by omega) (by omega)).trans (h5.block k hk)⟩
theorem kp_blk {g t : Nat} {cs : Array Value} (hb : w.heap[g]? = some (.cells cs t (0, 0))) (h : Kp C M w w1) (h1 : g ≠ C) (h2 : g ≠ M) : w1.heap[g]? = some (.cells cs t (0, 0)) := by
  rw [h.block g (blk_lt hb) h1 h2]
  exact hb
end
theorem kp_below0 {C M : Nat} {w w1 w2 : World} (h : Kp C M w w1) (k : Below w1.heap.size w1 w2) : Kp C M w w2 := kp_then h k
abbrev CC (w : World) (C : Nat) (k : Int) : Prop := w.heap[C]? = some (.cells #[.int .i64 k] 3 (0, 0))
/-! ### The closure -/
set_option maxHeartbeats 1000000 in
theorem inc_walk (C : Nat) (word : ByteArray) (k : Int) (hk : 0 ≤ k ∧ k < 2199023255552) (W : World) (hC : CC W C k) :
    Calls Tryd.prog 12 #[.string word, .pointer (some ⟨C, 0, none⟩)] W fun e w' => e = .returned (.bool true) ∧ w' = W.setCell ⟨C, 0, none⟩ (.int .i64 (k + 1)) := by
  have c0_ : W.cell? ⟨C, 0, none⟩ = some (.int .i64 k) := blk_cell hC 0
  have f0_ := blk_frozen hC 0
  have hw_ : IntKind.i64.wrap (k + 1) = k + 1 := IntWalk.i64_in _ (by omega)
  clear hC
  go_enter Tryd.func12, Tryd.ntmps12
  go_wp2_with fail
  go_ret
  exact ⟨rfl, rfl⟩
theorem door {P : Program} {fn : Func} {R : Ending → World → Prop} {tmps : Array Value} {w : World} {v : Value} (h : (results fn tmps).run P w = .ok v w) (hR : R (.returned v) w) : bodyPostB P fn R .ret { tmps := tmps, defers := [] } w := ⟨v, h, hR⟩
def trs.T11 : Bool × List (List Nat × List Nat) := (true, [([], []), ([], []), ([], []), ([2], [2]), ([0, 1, 3], [0, 1, 3]), ([4], [4]), ([5], [5]), ([5], [5]), ([], []), ([8, 6, 4, 0, 1, 2, 3, 4, 5, 6, 8], [6, 8]), ([7, 9, 0, 1, 2, 3, 4, 5, 6, 7, 8, 9], [7])])
def trs.B11 : List Nat := [0, 0, 0, 4, 15, 31, 63, 63, 0, 383, 1023]
theorem trs.tab11 : rtab .any (opsOf Tryd.f20 11) = trs.T11 := by kernel_rfl
theorem trs.bits11 : waitsOk trs.T11.2 trs.B11 = true := by kernel_rfl
def trs.T12 : Bool × List (List Nat × List Nat) := (true, [([], []), ([0], [0]), ([1], [1]), ([1], [1]), ([1], [1]), ([1], [1]), ([1], [1]), ([6, 1], [1, 6]), ([5, 7, 1], [1, 5, 7]), ([4, 8, 1], [1, 4, 8]), ([1], [1]), ([1], [1]), ([11, 1], [1, 11]), ([1], [1]), ([2, 3, 9, 10, 12, 13, 1, 1], [1, 2, 3, 9, 10, 12, 13]), ([14, 1], [1, 14]), ([1, 15], [1, 15])])
def trs.B12 : List Nat := [0, 1, 3, 3, 3, 3, 3, 67, 227, 499, 3, 3, 2051, 3, 16383, 32767, 65535]
theorem trs.tab12 : rtab .any (opsOf Tryd.f20 12) = trs.T12 := by kernel_rfl
theorem trs.bits12 : waitsOk trs.T12.2 trs.B12 = true := by kernel_rfl
abbrev GV (A0 : Option Addr) (gn gc : Nat) : Value := .slice A0 gn gc
set_option maxHeartbeats 8000000 in
set_option maxRecDepth 100000 in
theorem tours_walk (lab mat : St → Bool) (lv : St → Int) (can : St → Nat → Bool) (Gd GF : St → Prop) (A0 : Option Addr) (gn gc C M : Nat) (w5 : World) (hC : w5.heap.size ≤ C) (hM : w5.heap.size ≤ M) (hCM : C ≠ M)
    (hA : ∀ n s met, A can moved lab mat cellOf (n + 1) s met ≤ 4 ^ n) (hgd : ∀ s, GF s → mat s = true → Gd s) (hgo : ∀ s i, Gd s → can s i = true → GF (moved s i))
    (hlab : ∀ s W, Below w5.heap.size w5 W → Calls Tryd.prog 28 #[.slice A0 gn gc, .int .i64 s.x, .int .i64 s.y] W fun e w' => e = .returned (.tuple #[.int .i64 (lv s), .bool (lab s)]) ∧ Below W.heap.size W w')
    (hmat : ∀ s W, Below w5.heap.size w5 W → Calls Tryd.prog 29 #[.slice A0 gn gc, .agg (st8 s)] W fun e w' => e = .returned (.bool (mat s)) ∧ Below W.heap.size W w')
    (hover : ∀ s i W, Gd s → i < 4 → Below w5.heap.size w5 W → Calls Tryd.prog 30 #[.slice A0 gn gc, .agg (st8 s), .int .u8 (byt i)] W fun e w' => e = .returned (.tuple #[.agg (st8 (moved s i)), .bool (can s i)]) ∧ Below W.heap.size W w') :
    ∀ (n : Nat) (s : St) (met : List (Int × Int)) (word : ByteArray) (k : Int) (W : World), n < 12 → GF s → Below w5.heap.size w5 W → holdsT W enc2 M met → CC W C k → 0 ≤ k ∧ k + ((4 ^ n : Nat) : Int) ≤ 1099511627776 → word.size + n ≤ 100 →
    Calls Tryd.prog 20 #[.slice A0 gn gc, .agg (st8 s), .string word, .map (some M), .int .i64 ((n : Int) + 1), .func (.func 12) #[] #[.pointer (some ⟨C, 0, none⟩)]] W fun e W' =>
      e = .returned (.bool true) ∧ Kp C M W W' ∧ holdsT W' enc2 M met ∧ CC W' C (k + (A can moved lab mat cellOf (n + 1) s met : Int)) := by
  have HLAB := Go.Lib.hid hlab
  have HMAT := Go.Lib.hid hmat
  have HOVER := Go.Lib.hid hover
  have HGD := Go.Lib.hid (And.intro hgd hgo)
  have HCM := Go.Lib.hid (And.intro hC (And.intro hM hCM))
  have HAL := Go.Lib.hid hA
  clear hlab hmat hover hgd hgo hC hM hCM hA
  intro n
  induction n using Nat.strongRecOn with
  | _ n ih =>
    intro s met word k W hn hGF hW5 hMT hCC hk hsz
    have HIH := Go.Lib.hid ih
    have HN := Go.Lib.hid hn
    have HGF := Go.Lib.hid hGF
    have HW5 := Go.Lib.hid hW5
    have HK := Go.Lib.hid hk
    have HSZ := Go.Lib.hid hsz
    obtain ⟨cnt, hcnt⟩ : ∃ cnt, cnt = A can moved lab mat cellOf (n + 1) s met := ⟨_, rfl⟩
    rw [← hcnt]
    have HCNT := Go.Lib.hid hcnt
    have hb1 : Below W.heap.size W (W.alloc (.cells (st8 s) 30)) := (Below.refl _ W).alloc (Nat.le_refl _) _
    have HM1 := Go.Lib.hid (And.intro (holdsT_below hMT hb1) (And.intro (blk_below hCC hb1) (And.intro (blk_new W (.cells (st8 s) 30)) (And.intro (kp_then (kp_refl (C := C) (M := M) W) hb1) (And.intro (blk_lt hCC) (holdsT_lt hMT))))))
    have HLB := Go.Lib.hid (HLAB.out s _ (below_then hW5 hW5.size hb1))
    obtain ⟨lf, hlf⟩ : ∃ lf : Int, lf = (n : Int) + 1 := ⟨_, rfl⟩
    rw [← hlf]
    have HLF := Go.Lib.hid hlf
    obtain ⟨sB, hsB⟩ : ∃ sB, sB = W.heap.size := ⟨_, rfl⟩
    have HSB := Go.Lib.hid hsB
    clear ih hn hGF hW5 hk hsz hcnt hb1 hMT hCC hlf hsB
    refine calls_of_wp_B Tryd.func20 rfl ?_
    simp only [Tryd.ntmps20, List.size_toArray, List.length_cons, List.length_nil, Nat.reduceAdd, Nat.reduceSub, Array.replicate_succ, Array.replicate_zero, List.push_toArray, List.append_toArray, List.nil_append, List.cons_append]
    go_wp2_with fail
    refine HLB.out.mono ?_
    rintro e' w1 ⟨rfl, hb⟩
    have HX := Go.Lib.hid (And.intro (kp_then HM1.out.2.2.2.1 hb) (And.intro (holdsT_below HM1.out.1 hb) (And.intro (blk_below HM1.out.2.1 hb) (blk_below HM1.out.2.2.1 hb))))
    have HLT := Go.Lib.hid HM1.out.2.2.2.2
    rw [← HSB.out] at HX HLT ⊢
    clear hb HLB HM1
    obtain ⟨q1, hq1⟩ : ∃ q1, q1 = lab s := ⟨_, rfl⟩
    have HQ1 := Go.Lib.hid hq1
    rw [← hq1]
    clear hq1
    cases q1 with
    | false =>
      have hz : cnt = 0 := by rw [HCNT.out, A, if_neg (by rw [← HQ1.out]; simp)]
      go_wp2_with fail
      refine door (results_tmp rfl _ _ _) ⟨rfl, HX.out.1, HX.out.2.1, ?_⟩
      rw [hz]
      simpa using HX.out.2.2.1
    | true =>
      have hlk_ := MapT.look fits2 Tryd.underlying57 (zeroB w1) HX.out.2.1 (s.x, s.y)
      rw [place_in] at hlk_
      obtain ⟨q2, hq2⟩ : ∃ q2, q2 = isIn (s.x, s.y) met := ⟨_, rfl⟩
      have HQ2 := Go.Lib.hid hq2
      rw [← hq2] at hlk_
      have s0_ : w1.cell? ⟨sB, 0, none⟩ = some (.int .i64 s.x) := blk_cell HX.out.2.2.2 0
      have s1_ : w1.cell? ⟨sB, 1, none⟩ = some (.int .i64 s.y) := blk_cell HX.out.2.2.2 1
      have s2_ : w1.cell? ⟨sB, 2, none⟩ = some (.int .i64 s.d.t) := blk_cell HX.out.2.2.2 2
      have s3_ : w1.cell? ⟨sB, 3, none⟩ = some (.int .i64 s.d.n) := blk_cell HX.out.2.2.2 3
      have s4_ : w1.cell? ⟨sB, 4, none⟩ = some (.int .i64 s.d.e) := blk_cell HX.out.2.2.2 4
      have s5_ : w1.cell? ⟨sB, 5, none⟩ = some (.int .i64 s.d.s) := blk_cell HX.out.2.2.2 5
      have s6_ : w1.cell? ⟨sB, 6, none⟩ = some (.int .i64 s.d.w) := blk_cell HX.out.2.2.2 6
      have s7_ : w1.cell? ⟨sB, 7, none⟩ = some (.int .i64 s.d.b) := blk_cell HX.out.2.2.2 7
      clear hq2
      cases q2 with
      | true =>
        have hz : cnt = 0 := by rw [HCNT.out, A, if_neg (by rw [← HQ1.out, show isIn (cellOf s) met = true from HQ2.out.symm]; simp)]
        go_wp2_with fail
        refine door (results_tmp rfl _ _ _) ⟨rfl, HX.out.1, HX.out.2.1, ?_⟩
        rw [hz]
        simpa using HX.out.2.2.1
      | false =>
        have HMT := Go.Lib.hid (HMAT.out s w1 (kp_below HW5.out HX.out.1 HCM.out.1 HCM.out.2.1))
        obtain ⟨q3, hq3⟩ : ∃ q3, q3 = mat s := ⟨_, rfl⟩
        have HQ3 := Go.Lib.hid hq3
        rw [← hq3] at HMT
        clear hq3
        go_wp2_with fail
        refine HMT.out.mono ?_
        rintro e' w2 ⟨rfl, hb⟩
        have n_HX := Go.Lib.hid (And.intro (kp_then HX.out.1 hb) (And.intro (holdsT_below HX.out.2.1 hb) (And.intro (blk_below HX.out.2.2.1 hb) (blk_below HX.out.2.2.2 hb))))
        clear HX hb hlk_ HMT s0_ s1_ s2_ s3_ s4_ s5_ s6_ s7_
        have HX := n_HX
        clear n_HX
        cases q3 with
        | false =>
          have hz : cnt = 0 := by rw [HCNT.out, A, if_neg (by rw [← HQ3.out]; simp)]
          go_wp2_with fail
          refine door (results_tmp rfl _ _ _) ⟨rfl, HX.out.1, HX.out.2.1, ?_⟩
          rw [hz]
          simpa using HX.out.2.2.1
        | true =>
          have HOK := Go.Lib.hid (show ((lab s && !(isIn (cellOf s) met)) && mat s) = true by rw [← HQ1.out, ← HQ3.out, show isIn (cellOf s) met = false from HQ2.out.symm]; rfl)
          have HNI := Go.Lib.hid (show (s.x, s.y) ∉ met from fun h_ => by have h2_ := HQ2.out; rw [isIn_iff.2 h_] at h2_; cases h2_)
          clear HQ1 HQ2
          by_cases h0 : n = 0
          · subst h0
            have hl1 : lf = 1 := HLF.out
            have hz : cnt = 1 := by rw [HCNT.out, A, if_pos HOK.out, if_pos rfl]
            subst hl1
            have HI := Go.Lib.hid (inc_walk C word k ⟨HK.out.1, by have := HK.out.2; omega⟩ w2 HX.out.2.2.1)
            go_wp2_with fail
            refine HI.out.mono ?_
            rintro e' w3 ⟨rfl, rfl⟩
            go_wp2_with fail
            refine door (results_tmp rfl _ _ _) ⟨rfl, kp_set HX.out.1 (.inr rfl), holdsT_of_block HX.out.2.1 (Below.heap_setCell _ _ _ _ (fun h_ => HCM.out.2.2 h_.symm)), ?_⟩
            rw [hz]
            exact blk_put HX.out.2.2.1 0 _ rfl
          · obtain ⟨m, rfl⟩ : ∃ m, n = m + 1 := ⟨n - 1, by omega⟩
            have hl1 : ¬ lf = 1 := by have := HLF.out; omega
            have hl2 : (lf == 1) = false := by simpa using hl1
            have hl3 : decide (lf = 1) = false := decide_eq_false hl1
            obtain ⟨F, hF⟩ : ∃ F : Nat → Nat, F = fun i => if can s i = true then A can moved lab mat cellOf (m + 1) (moved s i) (met ++ [cellOf s]) else 0 := ⟨_, rfl⟩
            have HZ := Go.Lib.hid (show cnt = sumTo F 4 by rw [HCNT.out, A, if_pos HOK.out, if_neg h0, hF])
            have HF := Go.Lib.hid hF
            have HFL := Go.Lib.hid (show ∀ i, F i ≤ 4 ^ m from fun i => by
              rw [hF]
              show (if can s i = true then A can moved lab mat cellOf (m + 1) (moved s i) (met ++ [cellOf s]) else 0) ≤ 4 ^ m
              split
              · exact HAL.out m _ _
              · exact Nat.zero_le _)
            have HGDS := Go.Lib.hid (HGD.out.1 s HGF.out HQ3.out.symm)
            obtain ⟨o, hput, hT6⟩ := MapT.put fits2 Tryd.underlying57 HX.out.2.1 (s.x, s.y) HNI.out
            obtain ⟨es, cl, hes, _⟩ := HX.out.2.1
            have HX6 := Go.Lib.hid (And.intro (kp_map HX.out.1 hes o) (And.intro (show holdsT (setBlock w2 M o) enc2 M (met ++ [cellOf s]) from hT6) (And.intro (show CC (setBlock w2 M o) C k from (heap_setBlock_other hes o HCM.out.2.2).trans HX.out.2.2.1) ((heap_setBlock_other hes o (fun e_ => by have h_ := HLT.out.2; have h2_ := HSB.out; omega)).trans HX.out.2.2.2))))
            have s0_ : w2.cell? ⟨sB, 0, none⟩ = some (.int .i64 s.x) := blk_cell HX.out.2.2.2 0
            have s1_ : w2.cell? ⟨sB, 1, none⟩ = some (.int .i64 s.y) := blk_cell HX.out.2.2.2 1
            have s2_ : w2.cell? ⟨sB, 2, none⟩ = some (.int .i64 s.d.t) := blk_cell HX.out.2.2.2 2
            have s3_ : w2.cell? ⟨sB, 3, none⟩ = some (.int .i64 s.d.n) := blk_cell HX.out.2.2.2 3
            have s4_ : w2.cell? ⟨sB, 4, none⟩ = some (.int .i64 s.d.e) := blk_cell HX.out.2.2.2 4
            have s5_ : w2.cell? ⟨sB, 5, none⟩ = some (.int .i64 s.d.s) := blk_cell HX.out.2.2.2 5
            have s6_ : w2.cell? ⟨sB, 6, none⟩ = some (.int .i64 s.d.w) := blk_cell HX.out.2.2.2 6
            have s7_ : w2.cell? ⟨sB, 7, none⟩ = some (.int .i64 s.d.b) := blk_cell HX.out.2.2.2 7
            clear h0 hF hT6 hes
            go_upto_region 7 with fail
            clear hput s0_ s1_ s2_ s3_ s4_ s5_ s6_ s7_ HX hl1 hl2 hl3
            generalize setBlock w2 M o = w6 at HX6 ⊢
            have s0_ : w6.cell? ⟨sB, 0, none⟩ = some (.int .i64 s.x) := blk_cell HX6.out.2.2.2 0
            have s1_ : w6.cell? ⟨sB, 1, none⟩ = some (.int .i64 s.y) := blk_cell HX6.out.2.2.2 1
            have s2_ : w6.cell? ⟨sB, 2, none⟩ = some (.int .i64 s.d.t) := blk_cell HX6.out.2.2.2 2
            have s3_ : w6.cell? ⟨sB, 3, none⟩ = some (.int .i64 s.d.n) := blk_cell HX6.out.2.2.2 3
            have s4_ : w6.cell? ⟨sB, 4, none⟩ = some (.int .i64 s.d.e) := blk_cell HX6.out.2.2.2 4
            have s5_ : w6.cell? ⟨sB, 5, none⟩ = some (.int .i64 s.d.s) := blk_cell HX6.out.2.2.2 5
            have s6_ : w6.cell? ⟨sB, 6, none⟩ = some (.int .i64 s.d.w) := blk_cell HX6.out.2.2.2 6
            have s7_ : w6.cell? ⟨sB, 7, none⟩ = some (.int .i64 s.d.b) := blk_cell HX6.out.2.2.2 7
            go_wp2_with fail
            clear s0_ s1_ s2_ s3_ s4_ s5_ s6_ s7_
            go_loopw [61] (fun v61 wr => ∃ i : Nat, v61 = .int .i64 (i : Int) ∧ i ≤ 4 ∧ Kp C M W wr ∧ holdsT wr enc2 M (met ++ [cellOf s]) ∧ CC wr C (k + (sumTo F i : Int)) ∧ wr.heap[sB]? = some (.cells (st8 s) 30 (0, 0))) (fun v61 _ => 4 - (intOf v61).toNat)
            case atStart => exact ⟨0, rfl, by omega, HX6.out.1, HX6.out.2.1, by show CC w6 C (k + 0); rw [Int.add_zero]; exact HX6.out.2.2.1, HX6.out.2.2.2⟩
            case round =>
              clear HX6
              obtain ⟨ii, rfl, hi, hB, hMT, hCC, hBX⟩ := hrel
              have HB := Go.Lib.hid hB
              have MT := Go.Lib.hid hMT
              have CN := Go.Lib.hid hCC
              have BX := Go.Lib.hid hBX
              clear hB hMT hCC hBX
              by_cases h4 : ii < 4
              · have HI4 := Go.Lib.hid h4
                have hii : (ii : Int) < 4 := by omega
                obtain ⟨v, hv⟩ : ∃ v, v = moved s ii := ⟨_, rfl⟩
                obtain ⟨cn, hcn⟩ : ∃ cn, cn = can s ii := ⟨_, rfl⟩
                obtain ⟨kc, hkc⟩ : ∃ kc, kc = k + (sumTo F ii : Int) := ⟨_, rfl⟩
                have HV := Go.Lib.hid (And.intro hv hcn)
                have HKC := Go.Lib.hid hkc
                have HMV := Go.Lib.hid (fun W' (hW' : Kp C M W W') => HOVER.out s ii W' HGDS.out h4 (kp_below HW5.out hW' HCM.out.1 HCM.out.2.1))
                rw [← hv, ← hcn] at HMV
                rw [← hkc] at CN
                clear hv hcn hkc h4 hi
                go_upto_region 11 with fail
                refine start_ (n := 11) (S := fun w' => True) (ds := []) #[false, false, false, false, false, false, false, false, false, false, false] (by kernel_rfl) rfl rfl trivial (fun hHeld => ?_)
                refine with_tabW trs.tab11 trs.bits11 (fun HT_ HW_ => ?_)
                have n_HB := Go.Lib.hid (kp_drew HB.out)
                have n_MT := Go.Lib.hid (holdsT_below MT.out (below_drew (Below.refl _ _)))
                have n_CN := Go.Lib.hid (blk_drew CN.out)
                have n_BX := Go.Lib.hid (blk_drew BX.out)
                clear HB MT CN BX
                have HB := n_HB
                have MT := n_MT
                have CN := n_CN
                have BX := n_BX
                clear n_HB n_MT n_CN n_BX
                generalize World.drew _ = w11 at HB MT CN BX hHeld ⊢
                refine pure_ (i := 0) (N := some 65) (v := ?_) (a' := ?_) #[true, false, false, false, false, false, false, false, false, false, false] rfl rfl (any_of HT_.out (by kernel_rfl)) (fun _ _ _ h => h) (Or.inl ⟨by rfl, ?_⟩) ?_ ?_
                rotate_left
                · intro w'
                  go_simp
                  with_reducible rfl
                rotate_left
                · simp only [Act.put, List.setIfInBounds_toArray, List.set_cons_zero, List.set_cons_succ, i64_w, i32_w]
                  rfl
                refine pure_ (i := 2) (N := some 67) (v := ?_) (a' := ?_) #[true, false, true, false, false, false, false, false, false, false, false] rfl rfl (any_of HT_.out (by kernel_rfl)) (fun _ _ _ h => h) (Or.inl ⟨by rfl, ?_⟩) ?_ ?_
                rotate_left
                · intro w'
                  go_simp
                  with_reducible rfl
                rotate_left
                · simp only [Act.put, List.setIfInBounds_toArray, List.set_cons_zero, List.set_cons_succ, i64_w, i32_w]
                  rfl
                refine inv_at [1, 3, 4, 5, 6, 7, 8, 9, 10] (fun a0_ b a w' => ∃ (gt_ : Nat) (m8_ : Value), a = putSel a0_ b [(1, 66, .agg #[.int .i64 s.x, .int .i64 s.y, .int .i64 s.d.t, .int .i64 s.d.n, .int .i64 s.d.e, .int .i64 s.d.s, .int .i64 s.d.w, .int .i64 s.d.b]), (3, 68, .int .u8 (byt ii)), (4, 69, .tuple #[.agg #[.int .i64 v.x, .int .i64 v.y, .int .i64 v.d.t, .int .i64 v.d.n, .int .i64 v.d.e, .int .i64 v.d.s, .int .i64 v.d.w, .int .i64 v.d.b], .bool cn]), (5, 64, .tuple #[.agg #[.int .i64 v.x, .int .i64 v.y, .int .i64 v.d.t, .int .i64 v.d.n, .int .i64 v.d.e, .int .i64 v.d.s, .int .i64 v.d.w, .int .i64 v.d.b], .bool cn]), (6, 70, .agg #[.int .i64 v.x, .int .i64 v.y, .int .i64 v.d.t, .int .i64 v.d.n, .int .i64 v.d.e, .int .i64 v.d.s, .int .i64 v.d.w, .int .i64 v.d.b]), (7, 71, .bool cn), (8, 16, m8_), (10, 17, .bool cn)] ∧ (Kp C M W w') ∧ (holdsT w' enc2 M (met ++ [cellOf s])) ∧ (CC w' C kc) ∧ (w'.heap[sB]? = some (.cells (st8 s) 30 (0, 0))) ∧ (b 8 = true → b 9 = false → w'.heap[gt_]? = some (.cells #[.int .i64 0, .int .i64 0, .int .i64 0, .int .i64 0, .int .i64 0, .int .i64 0, .int .i64 0, .int .i64 0] 30 (0, 0)) ∧ W.heap.size ≤ gt_ ∧ gt_ ≠ C ∧ gt_ ≠ M ∧ gt_ ≠ sB) ∧ (b 9 = true → w'.heap[gt_]? = some (.cells (st8 v) 30 (0, 0)) ∧ W.heap.size ≤ gt_ ∧ gt_ ≠ C ∧ gt_ ≠ M ∧ gt_ ≠ sB) ∧ (b 8 = true → (m8_ : Value) = .pointer (some ⟨gt_, 0, none⟩))) HT_.out HW_.out (by kernel_rfl) (by kernel_rfl) ?_ ?_ ?_
                · exact ⟨0, .bool false, by simp only [putSel, Bool.false_eq_true, if_false], HB.out, MT.out, CN.out, BX.out, fun h_ => absurd h_ (by decide), fun h_ => absurd h_ (by decide), fun h_ => absurd h_ (by decide)⟩
                · skip
                  clear BX CN HB MT
                  refine steps_cons ?_ ?_
                  · rintro b a w' ⟨gt_, m8_, ha, Q_HB, Q_MT, Q_CN, Q_BX, Q_Z0, Q_BT, Q_X8_⟩ hb_ hon hoff
                    refine ⟨_, rfl, fun K hK => ?_⟩
                    have e7 : a.tmps[7]? = some (.pointer (some ⟨sB, 0, none⟩)) := by rw [ha]; exact (putSel_off rfl).trans rfl
                    replace ha := Aside0.mk ha
                    have HB := Aside0.mk Q_HB
                    have MT := Aside0.mk Q_MT
                    have CN := Aside0.mk Q_CN
                    have BX := Aside0.mk Q_BX
                    have o0 : w'.cell? ⟨sB, 0, none⟩ = some (.int .i64 s.x) := blk_cell BX.out 0
                    have o1 : w'.cell? ⟨sB, 1, none⟩ = some (.int .i64 s.y) := blk_cell BX.out 1
                    have o2 : w'.cell? ⟨sB, 2, none⟩ = some (.int .i64 s.d.t) := blk_cell BX.out 2
                    have o3 : w'.cell? ⟨sB, 3, none⟩ = some (.int .i64 s.d.n) := blk_cell BX.out 3
                    have o4 : w'.cell? ⟨sB, 4, none⟩ = some (.int .i64 s.d.e) := blk_cell BX.out 4
                    have o5 : w'.cell? ⟨sB, 5, none⟩ = some (.int .i64 s.d.s) := blk_cell BX.out 5
                    have o6 : w'.cell? ⟨sB, 6, none⟩ = some (.int .i64 s.d.w) := blk_cell BX.out 6
                    have o7 : w'.cell? ⟨sB, 7, none⟩ = some (.int .i64 s.d.b) := blk_cell BX.out 7
                    refine value_ (w1 := w') (v := .agg #[.int .i64 s.x, .int .i64 s.y, .int .i64 s.d.t, .int .i64 s.d.n, .int .i64 s.d.e, .int .i64 s.d.s, .int .i64 s.d.w, .int .i64 s.d.b]) (by rfl) rfl ?_ ?_
                    · go_simp
                      (try simp only [i64_w])
                      try rfl
                    refine hK.out _ _ ⟨gt_, m8_, (by rw [ha.out]; exact putSel_upk 0 hb_ rfl rfl rfl), Q_HB, Q_MT, Q_CN, Q_BX, Q_Z0, fun h0_ => absurd ((hoff 9 (by kernel_rfl)).symm.trans h0_) (by decide), Q_X8_⟩
                  refine steps_cons ?_ ?_
                  · rintro b a w' ⟨gt_, m8_, ha, Q_HB, Q_MT, Q_CN, Q_BX, Q_Z0, Q_BT, Q_X8_⟩ hb_ hon hoff
                    refine ⟨_, rfl, fun K hK => ?_⟩
                    have e67 : a.tmps[67]? = some (.int .i64 (ii : Int)) := by rw [ha]; exact (putSel_off rfl).trans rfl
                    replace ha := Aside0.mk ha
                    have HB := Aside0.mk Q_HB
                    have MT := Aside0.mk Q_MT
                    have CN := Aside0.mk Q_CN
                    have BX := Aside0.mk Q_BX
                    have hix_ := index_dir ii HI4.out
                    refine value_ (w1 := w') (v := .int .u8 (byt ii)) (by rfl) rfl ?_ ?_
                    · go_simp
                      (try simp only [i64_w])
                      try rfl
                    refine hK.out _ _ ⟨gt_, m8_, (by rw [ha.out]; exact putSel_upk 1 hb_ rfl rfl rfl), Q_HB, Q_MT, Q_CN, Q_BX, Q_Z0, fun h0_ => absurd ((hoff 9 (by kernel_rfl)).symm.trans h0_) (by decide), Q_X8_⟩
                  refine steps_cons ?_ ?_
                  · rintro b a w' ⟨gt_, m8_, ha, Q_HB, Q_MT, Q_CN, Q_BX, Q_Z0, Q_BT, Q_X8_⟩ hb_ hon hoff
                    refine ⟨_, rfl, fun K hK => ?_⟩
                    have e65 : a.tmps[65]? = some (.slice A0 gn gc) := by rw [ha]; exact (putSel_off rfl).trans rfl
                    have e66 : a.tmps[66]? = some (.agg #[.int .i64 s.x, .int .i64 s.y, .int .i64 s.d.t, .int .i64 s.d.n, .int .i64 s.d.e, .int .i64 s.d.s, .int .i64 s.d.w, .int .i64 s.d.b]) := by rw [ha]; exact putSel_on (e := (1, 66, .agg #[.int .i64 s.x, .int .i64 s.y, .int .i64 s.d.t, .int .i64 s.d.n, .int .i64 s.d.e, .int .i64 s.d.s, .int .i64 s.d.w, .int .i64 s.d.b])) 0 rfl rfl (hon 1 (by kernel_rfl)) rfl
                    have e68 : a.tmps[68]? = some (.int .u8 (byt ii)) := by rw [ha]; exact putSel_on (e := (3, 68, .int .u8 (byt ii))) 1 rfl rfl (hon 3 (by kernel_rfl)) rfl
                    replace ha := Aside0.mk ha
                    have HB := Aside0.mk Q_HB
                    have MT := Aside0.mk Q_MT
                    have CN := Aside0.mk Q_CN
                    have BX := Aside0.mk Q_BX
                    refine call_ 30 #[.slice A0 gn gc, .agg #[.int .i64 s.x, .int .i64 s.y, .int .i64 s.d.t, .int .i64 s.d.n, .int .i64 s.d.e, .int .i64 s.d.s, .int .i64 s.d.w, .int .i64 s.d.b], .int .u8 (byt ii)] (by rfl) rfl ?_ ?_
                    · go_simp
                      (try rfl)
                    with_reducible refine (HMV.out w' HB.out).mono ?_
                    rintro e' w1 ⟨rfl, hb⟩
                    refine ⟨_, rfl, ?_⟩
                    refine hK.out _ _ ⟨gt_, m8_, (by rw [ha.out]; exact putSel_upk 2 hb_ rfl rfl rfl), kp_then HB.out hb, holdsT_below MT.out hb, blk_below CN.out hb, blk_below BX.out hb, fun h0_ h1_ => ⟨blk_below (Q_Z0 h0_ h1_).1 hb, (Q_Z0 h0_ h1_).2⟩, fun h0_ => absurd ((hoff 9 (by kernel_rfl)).symm.trans h0_) (by decide), Q_X8_⟩
                  refine steps_cons ?_ ?_
                  · rintro b a w' ⟨gt_, m8_, ha, Q_HB, Q_MT, Q_CN, Q_BX, Q_Z0, Q_BT, Q_X8_⟩ hb_ hon hoff
                    refine ⟨_, rfl, fun K hK => ?_⟩
                    have e69 : a.tmps[69]? = some (.tuple #[.agg #[.int .i64 v.x, .int .i64 v.y, .int .i64 v.d.t, .int .i64 v.d.n, .int .i64 v.d.e, .int .i64 v.d.s, .int .i64 v.d.w, .int .i64 v.d.b], .bool cn]) := by rw [ha]; exact putSel_on (e := (4, 69, .tuple #[.agg #[.int .i64 v.x, .int .i64 v.y, .int .i64 v.d.t, .int .i64 v.d.n, .int .i64 v.d.e, .int .i64 v.d.s, .int .i64 v.d.w, .int .i64 v.d.b], .bool cn])) 2 rfl rfl (hon 4 (by kernel_rfl)) rfl
                    replace ha := Aside0.mk ha
                    have HB := Aside0.mk Q_HB
                    have MT := Aside0.mk Q_MT
                    have CN := Aside0.mk Q_CN
                    have BX := Aside0.mk Q_BX
                    refine value_ (w1 := w') (v := .tuple #[.agg #[.int .i64 v.x, .int .i64 v.y, .int .i64 v.d.t, .int .i64 v.d.n, .int .i64 v.d.e, .int .i64 v.d.s, .int .i64 v.d.w, .int .i64 v.d.b], .bool cn]) (by rfl) rfl ?_ ?_
                    · go_simp
                      (try simp only [i64_w])
                      try rfl
                    refine hK.out _ _ ⟨gt_, m8_, (by rw [ha.out]; exact putSel_upk 3 hb_ rfl rfl rfl), Q_HB, Q_MT, Q_CN, Q_BX, Q_Z0, fun h0_ => absurd ((hoff 9 (by kernel_rfl)).symm.trans h0_) (by decide), Q_X8_⟩
                  refine steps_cons ?_ ?_
                  · rintro b a w' ⟨gt_, m8_, ha, Q_HB, Q_MT, Q_CN, Q_BX, Q_Z0, Q_BT, Q_X8_⟩ hb_ hon hoff
                    refine ⟨_, rfl, fun K hK => ?_⟩
                    have e64 : a.tmps[64]? = some (.tuple #[.agg #[.int .i64 v.x, .int .i64 v.y, .int .i64 v.d.t, .int .i64 v.d.n, .int .i64 v.d.e, .int .i64 v.d.s, .int .i64 v.d.w, .int .i64 v.d.b], .bool cn]) := by rw [ha]; exact putSel_on (e := (5, 64, .tuple #[.agg #[.int .i64 v.x, .int .i64 v.y, .int .i64 v.d.t, .int .i64 v.d.n, .int .i64 v.d.e, .int .i64 v.d.s, .int .i64 v.d.w, .int .i64 v.d.b], .bool cn])) 3 rfl rfl (hon 5 (by kernel_rfl)) rfl
                    replace ha := Aside0.mk ha
                    have HB := Aside0.mk Q_HB
                    have MT := Aside0.mk Q_MT
                    have CN := Aside0.mk Q_CN
                    have BX := Aside0.mk Q_BX
                    refine value_ (w1 := w') (v := .agg #[.int .i64 v.x, .int .i64 v.y, .int .i64 v.d.t, .int .i64 v.d.n, .int .i64 v.d.e, .int .i64 v.d.s, .int .i64 v.d.w, .int .i64 v.d.b]) (by rfl) rfl ?_ ?_
                    · go_simp
                      (try simp only [i64_w])
                      try rfl
                    refine hK.out _ _ ⟨gt_, m8_, (by rw [ha.out]; exact putSel_upk 4 hb_ rfl rfl rfl), Q_HB, Q_MT, Q_CN, Q_BX, Q_Z0, fun h0_ => absurd ((hoff 9 (by kernel_rfl)).symm.trans h0_) (by decide), Q_X8_⟩
                  refine steps_cons ?_ ?_
                  · rintro b a w' ⟨gt_, m8_, ha, Q_HB, Q_MT, Q_CN, Q_BX, Q_Z0, Q_BT, Q_X8_⟩ hb_ hon hoff
                    refine ⟨_, rfl, fun K hK => ?_⟩
                    have e64 : a.tmps[64]? = some (.tuple #[.agg #[.int .i64 v.x, .int .i64 v.y, .int .i64 v.d.t, .int .i64 v.d.n, .int .i64 v.d.e, .int .i64 v.d.s, .int .i64 v.d.w, .int .i64 v.d.b], .bool cn]) := by rw [ha]; exact putSel_on (e := (5, 64, .tuple #[.agg #[.int .i64 v.x, .int .i64 v.y, .int .i64 v.d.t, .int .i64 v.d.n, .int .i64 v.d.e, .int .i64 v.d.s, .int .i64 v.d.w, .int .i64 v.d.b], .bool cn])) 3 rfl rfl (hon 5 (by kernel_rfl)) rfl
                    replace ha := Aside0.mk ha
                    have HB := Aside0.mk Q_HB
                    have MT := Aside0.mk Q_MT
                    have CN := Aside0.mk Q_CN
                    have BX := Aside0.mk Q_BX
                    refine value_ (w1 := w') (v := .bool cn) (by rfl) rfl ?_ ?_
                    · go_simp
                      (try simp only [i64_w])
                      try rfl
                    refine hK.out _ _ ⟨gt_, m8_, (by rw [ha.out]; exact putSel_upk 5 hb_ rfl rfl rfl), Q_HB, Q_MT, Q_CN, Q_BX, Q_Z0, Q_BT, Q_X8_⟩
                  refine steps_cons ?_ ?_
                  · rintro b a w' ⟨gt_, m8_, ha, Q_HB, Q_MT, Q_CN, Q_BX, Q_Z0, Q_BT, Q_X8_⟩ hb_ hon hoff
                    refine ⟨_, rfl, fun K hK => ?_⟩
                    replace ha := Aside0.mk ha
                    have HB := Aside0.mk Q_HB
                    have MT := Aside0.mk Q_MT
                    have CN := Aside0.mk Q_CN
                    have BX := Aside0.mk Q_BX
                    refine value_ (w1 := ?_) (v := ?_) (by rfl) rfl ?_ ?_
                    rotate_left 2
                    · go_simp
                      constructor
                      · rfl
                      · rfl
                    refine hK.out _ _ ⟨w'.heap.size, (.pointer (some ⟨w'.heap.size, 0, none⟩)), (by rw [ha.out]; exact putSel_upk 6 hb_ rfl rfl rfl), kp_alloc HB.out _, holdsT_below MT.out ((Below.refl _ w').alloc (Nat.le_refl _) _), blk_alloc CN.out _, blk_alloc BX.out _, fun _ _ => ⟨blk_new _ _, HB.out.size, Nat.ne_of_gt (blk_lt CN.out), Nat.ne_of_gt (holdsT_lt MT.out), Nat.ne_of_gt (blk_lt BX.out)⟩, fun h0_ => absurd ((hoff 9 (by kernel_rfl)).symm.trans h0_) (by decide), fun _ => rfl⟩
                  refine steps_cons ?_ ?_
                  · rintro b a w' ⟨gt_, m8_, ha, Q_HB, Q_MT, Q_CN, Q_BX, Q_Z0, Q_BT, Q_X8_⟩ hb_ hon hoff
                    refine ⟨_, rfl, fun K hK => ?_⟩
                    have e16 : a.tmps[16]? = some (m8_) := by rw [ha]; exact putSel_on (e := (8, 16, m8_)) 6 rfl rfl (hon 8 (by kernel_rfl)) rfl
                    rw [Q_X8_ (hon 8 (by kernel_rfl))] at e16
                    have e70 : a.tmps[70]? = some (.agg #[.int .i64 v.x, .int .i64 v.y, .int .i64 v.d.t, .int .i64 v.d.n, .int .i64 v.d.e, .int .i64 v.d.s, .int .i64 v.d.w, .int .i64 v.d.b]) := by rw [ha]; exact putSel_on (e := (6, 70, .agg #[.int .i64 v.x, .int .i64 v.y, .int .i64 v.d.t, .int .i64 v.d.n, .int .i64 v.d.e, .int .i64 v.d.s, .int .i64 v.d.w, .int .i64 v.d.b])) 4 rfl rfl (hon 6 (by kernel_rfl)) rfl
                    replace ha := Aside0.mk ha
                    have HB := Aside0.mk Q_HB
                    have MT := Aside0.mk Q_MT
                    have CN := Aside0.mk Q_CN
                    have BX := Aside0.mk Q_BX
                    have Z0 := Aside0.mk (Q_Z0 (hon 8 (by kernel_rfl)) hb_)
                    have z0 : w'.cell? ⟨gt_, 0, none⟩ = some (.int .i64 0) := blk_cell Z0.out.1 0
                    have z1 : w'.cell? ⟨gt_, 1, none⟩ = some (.int .i64 0) := blk_cell Z0.out.1 1
                    have z2 : w'.cell? ⟨gt_, 2, none⟩ = some (.int .i64 0) := blk_cell Z0.out.1 2
                    have z3 : w'.cell? ⟨gt_, 3, none⟩ = some (.int .i64 0) := blk_cell Z0.out.1 3
                    have z4 : w'.cell? ⟨gt_, 4, none⟩ = some (.int .i64 0) := blk_cell Z0.out.1 4
                    have z5 : w'.cell? ⟨gt_, 5, none⟩ = some (.int .i64 0) := blk_cell Z0.out.1 5
                    have z6 : w'.cell? ⟨gt_, 6, none⟩ = some (.int .i64 0) := blk_cell Z0.out.1 6
                    have z7 : w'.cell? ⟨gt_, 7, none⟩ = some (.int .i64 0) := blk_cell Z0.out.1 7
                    have zf0 := blk_frozen Z0.out.1 0
                    have zf1 := blk_frozen Z0.out.1 1
                    have zf2 := blk_frozen Z0.out.1 2
                    have zf3 := blk_frozen Z0.out.1 3
                    have zf4 := blk_frozen Z0.out.1 4
                    have zf5 := blk_frozen Z0.out.1 5
                    have zf6 := blk_frozen Z0.out.1 6
                    have zf7 := blk_frozen Z0.out.1 7
                    have hz2_ := Z0.out.2
                    refine skip_ (w1 := ?_) (by rfl) rfl ?_ ?_
                    rotate_left
                    · go_simp
                      rfl
                    refine hK.out _ _ ⟨gt_, m8_, (by rw [ha.out]; exact putSel_none (v := undef) rfl), (kp_set (kp_set (kp_set (kp_set (kp_set (kp_set (kp_set (kp_set HB.out (.inl hz2_.1)) (.inl hz2_.1)) (.inl hz2_.1)) (.inl hz2_.1)) (.inl hz2_.1)) (.inl hz2_.1)) (.inl hz2_.1)) (.inl hz2_.1)), (holdsT_of_block (holdsT_of_block (holdsT_of_block (holdsT_of_block (holdsT_of_block (holdsT_of_block (holdsT_of_block (holdsT_of_block MT.out (Below.heap_setCell _ _ _ _ (Ne.symm hz2_.2.2.1))) (Below.heap_setCell _ _ _ _ (Ne.symm hz2_.2.2.1))) (Below.heap_setCell _ _ _ _ (Ne.symm hz2_.2.2.1))) (Below.heap_setCell _ _ _ _ (Ne.symm hz2_.2.2.1))) (Below.heap_setCell _ _ _ _ (Ne.symm hz2_.2.2.1))) (Below.heap_setCell _ _ _ _ (Ne.symm hz2_.2.2.1))) (Below.heap_setCell _ _ _ _ (Ne.symm hz2_.2.2.1))) (Below.heap_setCell _ _ _ _ (Ne.symm hz2_.2.2.1))), (blk_far (blk_far (blk_far (blk_far (blk_far (blk_far (blk_far (blk_far CN.out (Ne.symm hz2_.2.1) _) (Ne.symm hz2_.2.1) _) (Ne.symm hz2_.2.1) _) (Ne.symm hz2_.2.1) _) (Ne.symm hz2_.2.1) _) (Ne.symm hz2_.2.1) _) (Ne.symm hz2_.2.1) _) (Ne.symm hz2_.2.1) _), (blk_far (blk_far (blk_far (blk_far (blk_far (blk_far (blk_far (blk_far BX.out (Ne.symm hz2_.2.2.2) _) (Ne.symm hz2_.2.2.2) _) (Ne.symm hz2_.2.2.2) _) (Ne.symm hz2_.2.2.2) _) (Ne.symm hz2_.2.2.2) _) (Ne.symm hz2_.2.2.2) _) (Ne.symm hz2_.2.2.2) _) (Ne.symm hz2_.2.2.2) _), fun _ h1_ => absurd ((up_self b 9).symm.trans h1_) (by decide), fun _ => ⟨(blk_put (cs := #[.int .i64 v.x, .int .i64 v.y, .int .i64 v.d.t, .int .i64 v.d.n, .int .i64 v.d.e, .int .i64 v.d.s, .int .i64 v.d.w, .int .i64 0]) (blk_put (cs := #[.int .i64 v.x, .int .i64 v.y, .int .i64 v.d.t, .int .i64 v.d.n, .int .i64 v.d.e, .int .i64 v.d.s, .int .i64 0, .int .i64 0]) (blk_put (cs := #[.int .i64 v.x, .int .i64 v.y, .int .i64 v.d.t, .int .i64 v.d.n, .int .i64 v.d.e, .int .i64 0, .int .i64 0, .int .i64 0]) (blk_put (cs := #[.int .i64 v.x, .int .i64 v.y, .int .i64 v.d.t, .int .i64 v.d.n, .int .i64 0, .int .i64 0, .int .i64 0, .int .i64 0]) (blk_put (cs := #[.int .i64 v.x, .int .i64 v.y, .int .i64 v.d.t, .int .i64 0, .int .i64 0, .int .i64 0, .int .i64 0, .int .i64 0]) (blk_put (cs := #[.int .i64 v.x, .int .i64 v.y, .int .i64 0, .int .i64 0, .int .i64 0, .int .i64 0, .int .i64 0, .int .i64 0]) (blk_put (cs := #[.int .i64 v.x, .int .i64 0, .int .i64 0, .int .i64 0, .int .i64 0, .int .i64 0, .int .i64 0, .int .i64 0]) (blk_put (cs := #[.int .i64 0, .int .i64 0, .int .i64 0, .int .i64 0, .int .i64 0, .int .i64 0, .int .i64 0, .int .i64 0]) Z0.out.1 0 _ rfl) 1 _ rfl) 2 _ rfl) 3 _ rfl) 4 _ rfl) 5 _ rfl) 6 _ rfl) 7 _ rfl), hz2_⟩, Q_X8_⟩
                  refine steps_cons ?_ ?_
                  · rintro b a w' ⟨gt_, m8_, ha, Q_HB, Q_MT, Q_CN, Q_BX, Q_Z0, Q_BT, Q_X8_⟩ hb_ hon hoff
                    refine ⟨_, rfl, fun K hK => ?_⟩
                    have e71 : a.tmps[71]? = some (.bool cn) := by rw [ha]; exact putSel_on (e := (7, 71, .bool cn)) 5 rfl rfl (hon 7 (by kernel_rfl)) rfl
                    replace ha := Aside0.mk ha
                    have HB := Aside0.mk Q_HB
                    have MT := Aside0.mk Q_MT
                    have CN := Aside0.mk Q_CN
                    have BX := Aside0.mk Q_BX
                    have BT := Aside0.mk (Q_BT (hon 9 (by kernel_rfl)))
                    refine value_ (w1 := w') (v := .bool cn) (by rfl) rfl ?_ ?_
                    · go_simp
                      (try simp only [i64_w])
                      try rfl
                    refine hK.out _ _ ⟨gt_, m8_, (by rw [ha.out]; exact putSel_upk 7 hb_ rfl rfl rfl), Q_HB, Q_MT, Q_CN, Q_BX, fun _ h1_ => absurd ((hon 9 (by kernel_rfl)).symm.trans h1_) (by decide), Q_BT, Q_X8_⟩
                  exact steps_nil
                · rintro b a w' hall ⟨gt_, m8_, ha, Q_HB, Q_MT, Q_CN, Q_BX, Q_Z0, Q_BT, Q_X8_⟩
                  clear BX CN HB MT
                  have hb1_ := hall 1 (by kernel_rfl)
                  have hb3_ := hall 3 (by kernel_rfl)
                  have hb4_ := hall 4 (by kernel_rfl)
                  have hb5_ := hall 5 (by kernel_rfl)
                  have hb6_ := hall 6 (by kernel_rfl)
                  have hb7_ := hall 7 (by kernel_rfl)
                  have hb8_ := hall 8 (by kernel_rfl)
                  have hb9_ := hall 9 (by kernel_rfl)
                  have hb10_ := hall 10 (by kernel_rfl)
                  subst ha
                  obtain rfl := Q_X8_ hb8_
                  simp only [putSel, hb1_, hb3_, hb4_, hb5_, hb6_, hb7_, hb8_, hb9_, hb10_, if_true, Act.put, List.setIfInBounds_toArray, List.set_cons_zero, List.set_cons_succ]
                  have HB := Aside0.mk Q_HB
                  clear Q_HB
                  have MT := Aside0.mk Q_MT
                  clear Q_MT
                  have CN := Aside0.mk Q_CN
                  clear Q_CN
                  have BX := Aside0.mk Q_BX
                  clear Q_BX
                  clear Q_Z0
                  have BT := Aside0.mk (Q_BT hb9_)
                  clear Q_BT
                  clear hall hb1_ hb3_ hb4_ hb5_ hb6_ hb7_ hb8_ hb9_ hb10_
                  cases cn with
                  | false =>
                    have hs0 : sumTo F (ii + 1) = sumTo F ii := by
                      show sumTo F ii + F ii = _
                      rw [HF.out]
                      show sumTo _ ii + (if can s ii = true then _ else 0) = _
                      rw [← HV.out.2, if_neg (by decide), Nat.add_zero]
                    have HS0 := Go.Lib.hid hs0
                    clear hs0
                    go_wp2_with fail
                    go_quiet (fail)
                    go_wp2_with fail
                    go_roundw
                    case rel => exact ⟨ii + 1, by go_num, HI4.out, kp_below0 HB.out (pw_below_drewN (Below.refl _ _) _), holdsT_below MT.out (pw_below_drewN (Below.refl _ _) _), by rw [HS0.out, ← HKC.out]; exact blk_drewN CN.out _, blk_drewN BX.out _⟩
                    case measure =>
                      have := HI4.out
                      simp [intOf]
                      omega
                  | true =>
                    obtain ⟨ac, hac⟩ : ∃ ac, ac = A can moved lab mat cellOf (m + 1) v (met ++ [cellOf s]) := ⟨_, rfl⟩
                    have HREC := Go.Lib.hid (fun W' (hW' : Kp C M W W') (hMT' : holdsT W' enc2 M (met ++ [cellOf s])) (hCC' : CC W' C kc) => HIH.out m (Nat.lt_succ_self m) v (met ++ [cellOf s]) (word ++ letter ii) kc W' (by have := HN.out; omega) (by rw [HV.out.1]; exact HGD.out.2 s ii HGDS.out HV.out.2.symm) (kp_below HW5.out hW' HCM.out.1 HCM.out.2.1) hMT' hCC'
                      (by
                        have h1 := Tour.sumTo_le (f := F) (c := 4 ^ m) (n := ii) (fun i _ => HFL.out i)
                        have h2 := HK.out
                        have h3 : (4 ^ (m + 1) : Nat) = 4 ^ m * 4 := Nat.pow_succ ..
                        have h4 := HI4.out
                        have h5 : ii * 4 ^ m ≤ 3 * 4 ^ m := Nat.mul_le_mul_right _ (by omega)
                        rw [HKC.out]
                        omega)
                      (by rw [ByteArray.size_append, letter_size]; have := HSZ.out; omega))
                    rw [← hac] at HREC
                    have HS0 := Go.Lib.hid (show sumTo F (ii + 1) = sumTo F ii + ac by
                      show sumTo F ii + F ii = _
                      rw [HF.out, hac, HV.out.1]
                      show sumTo _ ii + (if can s ii = true then _ else 0) = _
                      rw [← HV.out.2, if_pos rfl])
                    have HLF2 := Go.Lib.hid (show IntKind.i64.wrap (lf - 1) = (m : Int) + 1 by have h_ := HLF.out; have h2_ := HN.out; rw [IntWalk.i64_in _ (by omega)]; omega)
                    clear hac HMV
                    go_upto_region 12 with fail
                    refine start_ (n := 17) (S := fun w' => True) (ds := []) #[false, false, false, false, false, false, false, false, false, false, false, false, false, false, false, false, false] (by kernel_rfl) rfl rfl trivial (fun hHeld => ?_)
                    refine with_tabW trs.tab12 trs.bits12 (fun HT_ HW_ => ?_)
                    have n_HB := Go.Lib.hid (kp_drew HB.out)
                    have n_MT := Go.Lib.hid (holdsT_below MT.out (below_drew (Below.refl _ _)))
                    have n_BX := Go.Lib.hid (blk_drew BX.out)
                    have n_BT := Go.Lib.hid (And.intro (blk_drew BT.out.1) BT.out.2)
                    have n_CN := Go.Lib.hid (blk_drew CN.out)
                    clear HB MT BX BT CN
                    have HB := n_HB
                    have MT := n_MT
                    have BX := n_BX
                    have BT := n_BT
                    have CN := n_CN
                    clear n_HB n_MT n_BX n_BT n_CN
                    generalize World.drew _ = w12 at HB MT BX BT CN hHeld ⊢
                    refine pure_ (i := 0) (N := some 72) (v := ?_) (a' := ?_) #[true, false, false, false, false, false, false, false, false, false, false, false, false, false, false, false, false] rfl rfl (any_of HT_.out (by kernel_rfl)) (fun _ _ _ h => h) (Or.inl ⟨by rfl, ?_⟩) ?_ ?_
                    rotate_left
                    · intro w'
                      go_simp
                      with_reducible rfl
                    rotate_left
                    · simp only [Act.put, List.setIfInBounds_toArray, List.set_cons_zero, List.set_cons_succ, i64_w, i32_w]
                      rfl
                    refine pure_ (i := 1) (N := some 73) (v := ?_) (a' := ?_) #[true, true, false, false, false, false, false, false, false, false, false, false, false, false, false, false, false] rfl rfl (any_of HT_.out (by kernel_rfl)) (fun _ _ _ h => h) (Or.inl ⟨by rfl, ?_⟩) ?_ ?_
                    rotate_left
                    · intro w'
                      go_simp
                      with_reducible rfl
                    rotate_left
                    · simp only [Act.put, List.setIfInBounds_toArray, List.set_cons_zero, List.set_cons_succ, i64_w, i32_w]
                      rfl
                    refine inv_at [2, 3, 4, 5, 6, 7, 8, 9, 10, 11, 12, 13, 14, 15, 16] (fun a0_ b a w' => a = putSel a0_ b [(2, 74, .slice A0 gn gc), (3, 75, .agg #[.int .i64 v.x, .int .i64 v.y, .int .i64 v.d.t, .int .i64 v.d.n, .int .i64 v.d.e, .int .i64 v.d.s, .int .i64 v.d.w, .int .i64 v.d.b]), (4, 76, .string word), (5, 77, .int .i64 (ii : Int)), (6, 78, .int .i64 (ii : Int)), (7, 79, .int .i64 ((ii : Int) + 1)), (8, 80, .string (letter ii)), (9, 81, .string (word ++ letter ii)), (10, 82, .map (some M)), (11, 83, .int .i64 lf), (12, 84, .int .i64 ((m : Int) + 1)), (13, 85, .func (.func 12) #[] #[.pointer (some ⟨C, 0, none⟩)]), (14, 86, .bool true), (15, 87, .bool false), (16, 88, .bool false)] ∧ (Kp C M W w') ∧ (holdsT w' enc2 M (met ++ [cellOf s])) ∧ (w'.heap[sB]? = some (.cells (st8 s) 30 (0, 0))) ∧ (w'.heap[gt_]? = some (.cells (st8 v) 30 (0, 0)) ∧ W.heap.size ≤ gt_ ∧ gt_ ≠ C ∧ gt_ ≠ M ∧ gt_ ≠ sB) ∧ (b 14 = false → CC w' C kc) ∧ (b 14 = true → CC w' C (kc + (ac : Int)))) HT_.out HW_.out (by kernel_rfl) (by kernel_rfl) ?_ ?_ ?_
                    · exact ⟨by simp only [putSel, Bool.false_eq_true, if_false], HB.out, MT.out, BX.out, BT.out, fun _ => CN.out, fun h_ => absurd h_ (by decide)⟩
                    · skip
                      clear BT BX CN HB MT
                      refine steps_cons ?_ ?_
                      · rintro b a w' ⟨ha, Q_HB, Q_MT, Q_BX, Q_BT, Q_CN, Q_CD⟩ hb_ hon hoff
                        refine ⟨_, rfl, fun K hK => ?_⟩
                        have e0 : a.tmps[0]? = some (.slice A0 gn gc) := by rw [ha]; exact (putSel_off rfl).trans rfl
                        have e73 : a.tmps[73]? = some (.bool true) := by rw [ha]; exact (putSel_off rfl).trans rfl
                        replace ha := Aside0.mk ha
                        have HB := Aside0.mk Q_HB
                        have MT := Aside0.mk Q_MT
                        have BX := Aside0.mk Q_BX
                        have BT := Aside0.mk Q_BT
                        have CN := Aside0.mk (Q_CN (hoff 14 (by kernel_rfl)))
                        refine value_ (w1 := w') (v := .slice A0 gn gc) (wanted_on rfl rfl rfl (e73.trans (by first | rfl | (simp [*]; done)))) rfl ?_ ?_
                        · go_simp
                          (try simp only [i64_w])
                          try rfl
                        refine hK.out _ _ ⟨(by rw [ha.out]; exact putSel_upk 0 hb_ rfl rfl rfl), Q_HB, Q_MT, Q_BX, Q_BT, Q_CN, fun h0_ => absurd ((hoff 14 (by kernel_rfl)).symm.trans h0_) (by decide)⟩
                      refine steps_cons ?_ ?_
                      · rintro b a w' ⟨ha, Q_HB, Q_MT, Q_BX, Q_BT, Q_CN, Q_CD⟩ hb_ hon hoff
                        refine ⟨_, rfl, fun K hK => ?_⟩
                        have e16 : a.tmps[16]? = some (.pointer (some ⟨gt_, 0, none⟩)) := by rw [ha]; exact (putSel_off rfl).trans rfl
                        have e73 : a.tmps[73]? = some (.bool true) := by rw [ha]; exact (putSel_off rfl).trans rfl
                        replace ha := Aside0.mk ha
                        have HB := Aside0.mk Q_HB
                        have MT := Aside0.mk Q_MT
                        have BX := Aside0.mk Q_BX
                        have BT := Aside0.mk Q_BT
                        have CN := Aside0.mk (Q_CN (hoff 14 (by kernel_rfl)))
                        have o0 : w'.cell? ⟨gt_, 0, none⟩ = some (.int .i64 v.x) := blk_cell BT.out.1 0
                        have o1 : w'.cell? ⟨gt_, 1, none⟩ = some (.int .i64 v.y) := blk_cell BT.out.1 1
                        have o2 : w'.cell? ⟨gt_, 2, none⟩ = some (.int .i64 v.d.t) := blk_cell BT.out.1 2
                        have o3 : w'.cell? ⟨gt_, 3, none⟩ = some (.int .i64 v.d.n) := blk_cell BT.out.1 3
                        have o4 : w'.cell? ⟨gt_, 4, none⟩ = some (.int .i64 v.d.e) := blk_cell BT.out.1 4
                        have o5 : w'.cell? ⟨gt_, 5, none⟩ = some (.int .i64 v.d.s) := blk_cell BT.out.1 5
                        have o6 : w'.cell? ⟨gt_, 6, none⟩ = some (.int .i64 v.d.w) := blk_cell BT.out.1 6
                        have o7 : w'.cell? ⟨gt_, 7, none⟩ = some (.int .i64 v.d.b) := blk_cell BT.out.1 7
                        refine value_ (w1 := w') (v := .agg #[.int .i64 v.x, .int .i64 v.y, .int .i64 v.d.t, .int .i64 v.d.n, .int .i64 v.d.e, .int .i64 v.d.s, .int .i64 v.d.w, .int .i64 v.d.b]) (wanted_on rfl rfl rfl (e73.trans (by first | rfl | (simp [*]; done)))) rfl ?_ ?_
                        · go_simp
                          (try simp only [i64_w])
                          try rfl
                        refine hK.out _ _ ⟨(by rw [ha.out]; exact putSel_upk 1 hb_ rfl rfl rfl), Q_HB, Q_MT, Q_BX, Q_BT, Q_CN, fun h0_ => absurd ((hoff 14 (by kernel_rfl)).symm.trans h0_) (by decide)⟩
                      refine steps_cons ?_ ?_
                      · rintro b a w' ⟨ha, Q_HB, Q_MT, Q_BX, Q_BT, Q_CN, Q_CD⟩ hb_ hon hoff
                        refine ⟨_, rfl, fun K hK => ?_⟩
                        have e2 : a.tmps[2]? = some (.string word) := by rw [ha]; exact (putSel_off rfl).trans rfl
                        have e73 : a.tmps[73]? = some (.bool true) := by rw [ha]; exact (putSel_off rfl).trans rfl
                        replace ha := Aside0.mk ha
                        have HB := Aside0.mk Q_HB
                        have MT := Aside0.mk Q_MT
                        have BX := Aside0.mk Q_BX
                        have BT := Aside0.mk Q_BT
                        have CN := Aside0.mk (Q_CN (hoff 14 (by kernel_rfl)))
                        refine value_ (w1 := w') (v := .string word) (wanted_on rfl rfl rfl (e73.trans (by first | rfl | (simp [*]; done)))) rfl ?_ ?_
                        · go_simp
                          (try simp only [i64_w])
                          try rfl
                        refine hK.out _ _ ⟨(by rw [ha.out]; exact putSel_upk 2 hb_ rfl rfl rfl), Q_HB, Q_MT, Q_BX, Q_BT, Q_CN, fun h0_ => absurd ((hoff 14 (by kernel_rfl)).symm.trans h0_) (by decide)⟩
                      refine steps_cons ?_ ?_
                      · rintro b a w' ⟨ha, Q_HB, Q_MT, Q_BX, Q_BT, Q_CN, Q_CD⟩ hb_ hon hoff
                        refine ⟨_, rfl, fun K hK => ?_⟩
                        have e15 : a.tmps[15]? = some (.int .i64 (ii : Int)) := by rw [ha]; exact (putSel_off rfl).trans rfl
                        have e73 : a.tmps[73]? = some (.bool true) := by rw [ha]; exact (putSel_off rfl).trans rfl
                        replace ha := Aside0.mk ha
                        have HB := Aside0.mk Q_HB
                        have MT := Aside0.mk Q_MT
                        have BX := Aside0.mk Q_BX
                        have BT := Aside0.mk Q_BT
                        have CN := Aside0.mk (Q_CN (hoff 14 (by kernel_rfl)))
                        refine value_ (w1 := w') (v := .int .i64 (ii : Int)) (wanted_on rfl rfl rfl (e73.trans (by first | rfl | (simp [*]; done)))) rfl ?_ ?_
                        · go_simp
                          (try simp only [i64_w])
                          try rfl
                        refine hK.out _ _ ⟨(by rw [ha.out]; exact putSel_upk 3 hb_ rfl rfl rfl), Q_HB, Q_MT, Q_BX, Q_BT, Q_CN, fun h0_ => absurd ((hoff 14 (by kernel_rfl)).symm.trans h0_) (by decide)⟩
                      refine steps_cons ?_ ?_
                      · rintro b a w' ⟨ha, Q_HB, Q_MT, Q_BX, Q_BT, Q_CN, Q_CD⟩ hb_ hon hoff
                        refine ⟨_, rfl, fun K hK => ?_⟩
                        have e15 : a.tmps[15]? = some (.int .i64 (ii : Int)) := by rw [ha]; exact (putSel_off rfl).trans rfl
                        have e73 : a.tmps[73]? = some (.bool true) := by rw [ha]; exact (putSel_off rfl).trans rfl
                        replace ha := Aside0.mk ha
                        have HB := Aside0.mk Q_HB
                        have MT := Aside0.mk Q_MT
                        have BX := Aside0.mk Q_BX
                        have BT := Aside0.mk Q_BT
                        have CN := Aside0.mk (Q_CN (hoff 14 (by kernel_rfl)))
                        refine value_ (w1 := w') (v := .int .i64 (ii : Int)) (wanted_on rfl rfl rfl (e73.trans (by first | rfl | (simp [*]; done)))) rfl ?_ ?_
                        · go_simp
                          (try simp only [i64_w])
                          try rfl
                        refine hK.out _ _ ⟨(by rw [ha.out]; exact putSel_upk 4 hb_ rfl rfl rfl), Q_HB, Q_MT, Q_BX, Q_BT, Q_CN, fun h0_ => absurd ((hoff 14 (by kernel_rfl)).symm.trans h0_) (by decide)⟩
                      refine steps_cons ?_ ?_
                      · rintro b a w' ⟨ha, Q_HB, Q_MT, Q_BX, Q_BT, Q_CN, Q_CD⟩ hb_ hon hoff
                        refine ⟨_, rfl, fun K hK => ?_⟩
                        have e78 : a.tmps[78]? = some (.int .i64 (ii : Int)) := by rw [ha]; exact putSel_on (e := (6, 78, .int .i64 (ii : Int))) 4 rfl rfl (hon 6 (by kernel_rfl)) rfl
                        have e73 : a.tmps[73]? = some (.bool true) := by rw [ha]; exact (putSel_off rfl).trans rfl
                        replace ha := Aside0.mk ha
                        have HB := Aside0.mk Q_HB
                        have MT := Aside0.mk Q_MT
                        have BX := Aside0.mk Q_BX
                        have BT := Aside0.mk Q_BT
                        have CN := Aside0.mk (Q_CN (hoff 14 (by kernel_rfl)))
                        have hw_ : IntKind.i64.wrap ((ii : Int) + 1) = (ii : Int) + 1 := IntWalk.i64_in _ (by have h_ := HI4.out; omega)
                        refine value_ (w1 := w') (v := .int .i64 ((ii : Int) + 1)) (wanted_on rfl rfl rfl (e73.trans (by first | rfl | (simp [*]; done)))) rfl ?_ ?_
                        · go_simp
                          (try simp only [i64_w])
                          try rfl
                        refine hK.out _ _ ⟨(by rw [ha.out]; exact putSel_upk 5 hb_ rfl rfl rfl), Q_HB, Q_MT, Q_BX, Q_BT, Q_CN, fun h0_ => absurd ((hoff 14 (by kernel_rfl)).symm.trans h0_) (by decide)⟩
                      refine steps_cons ?_ ?_
                      · rintro b a w' ⟨ha, Q_HB, Q_MT, Q_BX, Q_BT, Q_CN, Q_CD⟩ hb_ hon hoff
                        refine ⟨_, rfl, fun K hK => ?_⟩
                        have e77 : a.tmps[77]? = some (.int .i64 (ii : Int)) := by rw [ha]; exact putSel_on (e := (5, 77, .int .i64 (ii : Int))) 3 rfl rfl (hon 5 (by kernel_rfl)) rfl
                        have e79 : a.tmps[79]? = some (.int .i64 ((ii : Int) + 1)) := by rw [ha]; exact putSel_on (e := (7, 79, .int .i64 ((ii : Int) + 1))) 5 rfl rfl (hon 7 (by kernel_rfl)) rfl
                        have e73 : a.tmps[73]? = some (.bool true) := by rw [ha]; exact (putSel_off rfl).trans rfl
                        replace ha := Aside0.mk ha
                        have HB := Aside0.mk Q_HB
                        have MT := Aside0.mk Q_MT
                        have BX := Aside0.mk Q_BX
                        have BT := Aside0.mk Q_BT
                        have CN := Aside0.mk (Q_CN (hoff 14 (by kernel_rfl)))
                        have hsl_ := slice_dir ii HI4.out w'
                        refine value_ (w1 := w') (v := .string (letter ii)) (wanted_on rfl rfl rfl (e73.trans (by first | rfl | (simp [*]; done)))) rfl ?_ ?_
                        · go_simp
                          (try simp only [i64_w])
                          try rfl
                        refine hK.out _ _ ⟨(by rw [ha.out]; exact putSel_upk 6 hb_ rfl rfl rfl), Q_HB, Q_MT, Q_BX, Q_BT, Q_CN, fun h0_ => absurd ((hoff 14 (by kernel_rfl)).symm.trans h0_) (by decide)⟩
                      refine steps_cons ?_ ?_
                      · rintro b a w' ⟨ha, Q_HB, Q_MT, Q_BX, Q_BT, Q_CN, Q_CD⟩ hb_ hon hoff
                        refine ⟨_, rfl, fun K hK => ?_⟩
                        have e76 : a.tmps[76]? = some (.string word) := by rw [ha]; exact putSel_on (e := (4, 76, .string word)) 2 rfl rfl (hon 4 (by kernel_rfl)) rfl
                        have e80 : a.tmps[80]? = some (.string (letter ii)) := by rw [ha]; exact putSel_on (e := (8, 80, .string (letter ii))) 6 rfl rfl (hon 8 (by kernel_rfl)) rfl
                        have e73 : a.tmps[73]? = some (.bool true) := by rw [ha]; exact (putSel_off rfl).trans rfl
                        replace ha := Aside0.mk ha
                        have HB := Aside0.mk Q_HB
                        have MT := Aside0.mk Q_MT
                        have BX := Aside0.mk Q_BX
                        have BT := Aside0.mk Q_BT
                        have CN := Aside0.mk (Q_CN (hoff 14 (by kernel_rfl)))
                        have hsz_ : word.size + (letter ii).size ≤ 9223372036854775807 := by rw [letter_size]; have h_ := HSZ.out; omega
                        refine value_ (w1 := w') (v := .string (word ++ letter ii)) (wanted_on rfl rfl rfl (e73.trans (by first | rfl | (simp [*]; done)))) rfl ?_ ?_
                        · go_simp
                          (try simp only [i64_w])
                          try rfl
                        refine hK.out _ _ ⟨(by rw [ha.out]; exact putSel_upk 7 hb_ rfl rfl rfl), Q_HB, Q_MT, Q_BX, Q_BT, Q_CN, fun h0_ => absurd ((hoff 14 (by kernel_rfl)).symm.trans h0_) (by decide)⟩
                      refine steps_cons ?_ ?_
                      · rintro b a w' ⟨ha, Q_HB, Q_MT, Q_BX, Q_BT, Q_CN, Q_CD⟩ hb_ hon hoff
                        refine ⟨_, rfl, fun K hK => ?_⟩
                        have e3 : a.tmps[3]? = some (.map (some M)) := by rw [ha]; exact (putSel_off rfl).trans rfl
                        have e73 : a.tmps[73]? = some (.bool true) := by rw [ha]; exact (putSel_off rfl).trans rfl
                        replace ha := Aside0.mk ha
                        have HB := Aside0.mk Q_HB
                        have MT := Aside0.mk Q_MT
                        have BX := Aside0.mk Q_BX
                        have BT := Aside0.mk Q_BT
                        have CN := Aside0.mk (Q_CN (hoff 14 (by kernel_rfl)))
                        refine value_ (w1 := w') (v := .map (some M)) (wanted_on rfl rfl rfl (e73.trans (by first | rfl | (simp [*]; done)))) rfl ?_ ?_
                        · go_simp
                          (try simp only [i64_w])
                          try rfl
                        refine hK.out _ _ ⟨(by rw [ha.out]; exact putSel_upk 8 hb_ rfl rfl rfl), Q_HB, Q_MT, Q_BX, Q_BT, Q_CN, fun h0_ => absurd ((hoff 14 (by kernel_rfl)).symm.trans h0_) (by decide)⟩
                      refine steps_cons ?_ ?_
                      · rintro b a w' ⟨ha, Q_HB, Q_MT, Q_BX, Q_BT, Q_CN, Q_CD⟩ hb_ hon hoff
                        refine ⟨_, rfl, fun K hK => ?_⟩
                        have e4 : a.tmps[4]? = some (.int .i64 lf) := by rw [ha]; exact (putSel_off rfl).trans rfl
                        have e73 : a.tmps[73]? = some (.bool true) := by rw [ha]; exact (putSel_off rfl).trans rfl
                        replace ha := Aside0.mk ha
                        have HB := Aside0.mk Q_HB
                        have MT := Aside0.mk Q_MT
                        have BX := Aside0.mk Q_BX
                        have BT := Aside0.mk Q_BT
                        have CN := Aside0.mk (Q_CN (hoff 14 (by kernel_rfl)))
                        refine value_ (w1 := w') (v := .int .i64 lf) (wanted_on rfl rfl rfl (e73.trans (by first | rfl | (simp [*]; done)))) rfl ?_ ?_
                        · go_simp
                          (try simp only [i64_w])
                          try rfl
                        refine hK.out _ _ ⟨(by rw [ha.out]; exact putSel_upk 9 hb_ rfl rfl rfl), Q_HB, Q_MT, Q_BX, Q_BT, Q_CN, fun h0_ => absurd ((hoff 14 (by kernel_rfl)).symm.trans h0_) (by decide)⟩
                      refine steps_cons ?_ ?_
                      · rintro b a w' ⟨ha, Q_HB, Q_MT, Q_BX, Q_BT, Q_CN, Q_CD⟩ hb_ hon hoff
                        refine ⟨_, rfl, fun K hK => ?_⟩
                        have e83 : a.tmps[83]? = some (.int .i64 lf) := by rw [ha]; exact putSel_on (e := (11, 83, .int .i64 lf)) 9 rfl rfl (hon 11 (by kernel_rfl)) rfl
                        have e73 : a.tmps[73]? = some (.bool true) := by rw [ha]; exact (putSel_off rfl).trans rfl
                        replace ha := Aside0.mk ha
                        have HB := Aside0.mk Q_HB
                        have MT := Aside0.mk Q_MT
                        have BX := Aside0.mk Q_BX
                        have BT := Aside0.mk Q_BT
                        have CN := Aside0.mk (Q_CN (hoff 14 (by kernel_rfl)))
                        have hw_ : IntKind.i64.wrap (lf - 1) = (m : Int) + 1 := HLF2.out
                        refine value_ (w1 := w') (v := .int .i64 ((m : Int) + 1)) (wanted_on rfl rfl rfl (e73.trans (by first | rfl | (simp [*]; done)))) rfl ?_ ?_
                        · go_simp
                          (try simp only [i64_w])
                          try rfl
                        refine hK.out _ _ ⟨(by rw [ha.out]; exact putSel_upk 10 hb_ rfl rfl rfl), Q_HB, Q_MT, Q_BX, Q_BT, Q_CN, fun h0_ => absurd ((hoff 14 (by kernel_rfl)).symm.trans h0_) (by decide)⟩
                      refine steps_cons ?_ ?_
                      · rintro b a w' ⟨ha, Q_HB, Q_MT, Q_BX, Q_BT, Q_CN, Q_CD⟩ hb_ hon hoff
                        refine ⟨_, rfl, fun K hK => ?_⟩
                        have e5 : a.tmps[5]? = some (.func (.func 12) #[] #[.pointer (some ⟨C, 0, none⟩)]) := by rw [ha]; exact (putSel_off rfl).trans rfl
                        have e73 : a.tmps[73]? = some (.bool true) := by rw [ha]; exact (putSel_off rfl).trans rfl
                        replace ha := Aside0.mk ha
                        have HB := Aside0.mk Q_HB
                        have MT := Aside0.mk Q_MT
                        have BX := Aside0.mk Q_BX
                        have BT := Aside0.mk Q_BT
                        have CN := Aside0.mk (Q_CN (hoff 14 (by kernel_rfl)))
                        refine value_ (w1 := w') (v := .func (.func 12) #[] #[.pointer (some ⟨C, 0, none⟩)]) (wanted_on rfl rfl rfl (e73.trans (by first | rfl | (simp [*]; done)))) rfl ?_ ?_
                        · go_simp
                          (try simp only [i64_w])
                          try rfl
                        refine hK.out _ _ ⟨(by rw [ha.out]; exact putSel_upk 11 hb_ rfl rfl rfl), Q_HB, Q_MT, Q_BX, Q_BT, Q_CN, fun h0_ => absurd ((hoff 14 (by kernel_rfl)).symm.trans h0_) (by decide)⟩
                      refine steps_cons ?_ ?_
                      · rintro b a w' ⟨ha, Q_HB, Q_MT, Q_BX, Q_BT, Q_CN, Q_CD⟩ hb_ hon hoff
                        refine ⟨_, rfl, fun K hK => ?_⟩
                        have e74 : a.tmps[74]? = some (.slice A0 gn gc) := by rw [ha]; exact putSel_on (e := (2, 74, .slice A0 gn gc)) 0 rfl rfl (hon 2 (by kernel_rfl)) rfl
                        have e75 : a.tmps[75]? = some (.agg #[.int .i64 v.x, .int .i64 v.y, .int .i64 v.d.t, .int .i64 v.d.n, .int .i64 v.d.e, .int .i64 v.d.s, .int .i64 v.d.w, .int .i64 v.d.b]) := by rw [ha]; exact putSel_on (e := (3, 75, .agg #[.int .i64 v.x, .int .i64 v.y, .int .i64 v.d.t, .int .i64 v.d.n, .int .i64 v.d.e, .int .i64 v.d.s, .int .i64 v.d.w, .int .i64 v.d.b])) 1 rfl rfl (hon 3 (by kernel_rfl)) rfl
                        have e81 : a.tmps[81]? = some (.string (word ++ letter ii)) := by rw [ha]; exact putSel_on (e := (9, 81, .string (word ++ letter ii))) 7 rfl rfl (hon 9 (by kernel_rfl)) rfl
                        have e82 : a.tmps[82]? = some (.map (some M)) := by rw [ha]; exact putSel_on (e := (10, 82, .map (some M))) 8 rfl rfl (hon 10 (by kernel_rfl)) rfl
                        have e84 : a.tmps[84]? = some (.int .i64 ((m : Int) + 1)) := by rw [ha]; exact putSel_on (e := (12, 84, .int .i64 ((m : Int) + 1))) 10 rfl rfl (hon 12 (by kernel_rfl)) rfl
                        have e85 : a.tmps[85]? = some (.func (.func 12) #[] #[.pointer (some ⟨C, 0, none⟩)]) := by rw [ha]; exact putSel_on (e := (13, 85, .func (.func 12) #[] #[.pointer (some ⟨C, 0, none⟩)])) 11 rfl rfl (hon 13 (by kernel_rfl)) rfl
                        have e73 : a.tmps[73]? = some (.bool true) := by rw [ha]; exact (putSel_off rfl).trans rfl
                        replace ha := Aside0.mk ha
                        have HB := Aside0.mk Q_HB
                        have MT := Aside0.mk Q_MT
                        have BX := Aside0.mk Q_BX
                        have BT := Aside0.mk Q_BT
                        have CN := Aside0.mk (Q_CN hb_)
                        refine call_ 20 #[.slice A0 gn gc, .agg #[.int .i64 v.x, .int .i64 v.y, .int .i64 v.d.t, .int .i64 v.d.n, .int .i64 v.d.e, .int .i64 v.d.s, .int .i64 v.d.w, .int .i64 v.d.b], .string (word ++ letter ii), .map (some M), .int .i64 ((m : Int) + 1), .func (.func 12) #[] #[.pointer (some ⟨C, 0, none⟩)]] (wanted_on rfl rfl rfl (e73.trans (by first | rfl | (simp [*]; done)))) rfl ?_ ?_
                        · go_simp
                          (try rfl)
                        with_reducible refine (HREC.out w' HB.out MT.out CN.out).mono ?_
                        rintro e' w1 ⟨rfl, hkp, hmt, hcc⟩
                        refine ⟨_, rfl, ?_⟩
                        refine hK.out _ _ ⟨(by rw [ha.out]; exact putSel_upk 12 hb_ rfl rfl rfl), kp_trans HB.out hkp, hmt, kp_blk BX.out hkp (by have h_ := HLT.out.1; have h2_ := HSB.out; omega) (by have h_ := HLT.out.2; have h2_ := HSB.out; omega), ⟨kp_blk BT.out.1 hkp BT.out.2.2.1 BT.out.2.2.2.1, BT.out.2⟩, fun h0_ => absurd ((up_self b 14).symm.trans h0_) (by decide), fun _ => hcc⟩
                      refine steps_cons ?_ ?_
                      · rintro b a w' ⟨ha, Q_HB, Q_MT, Q_BX, Q_BT, Q_CN, Q_CD⟩ hb_ hon hoff
                        refine ⟨_, rfl, fun K hK => ?_⟩
                        have e86 : a.tmps[86]? = some (.bool true) := by rw [ha]; exact putSel_on (e := (14, 86, .bool true)) 12 rfl rfl (hon 14 (by kernel_rfl)) rfl
                        have e73 : a.tmps[73]? = some (.bool true) := by rw [ha]; exact (putSel_off rfl).trans rfl
                        replace ha := Aside0.mk ha
                        have HB := Aside0.mk Q_HB
                        have MT := Aside0.mk Q_MT
                        have BX := Aside0.mk Q_BX
                        have BT := Aside0.mk Q_BT
                        have CD := Aside0.mk (Q_CD (hon 14 (by kernel_rfl)))
                        refine value_ (w1 := w') (v := .bool false) (wanted_on rfl rfl rfl (e73.trans (by first | rfl | (simp [*]; done)))) rfl ?_ ?_
                        · go_simp
                          (try simp only [i64_w])
                          try rfl
                        refine hK.out _ _ ⟨(by rw [ha.out]; exact putSel_upk 13 hb_ rfl rfl rfl), Q_HB, Q_MT, Q_BX, Q_BT, fun h0_ => absurd ((hon 14 (by kernel_rfl)).symm.trans h0_) (by decide), Q_CD⟩
                      refine steps_cons ?_ ?_
                      · rintro b a w' ⟨ha, Q_HB, Q_MT, Q_BX, Q_BT, Q_CN, Q_CD⟩ hb_ hon hoff
                        refine ⟨_, rfl, fun K hK => ?_⟩
                        have e73 : a.tmps[73]? = some (.bool true) := by rw [ha]; exact (putSel_off rfl).trans rfl
                        have e87 : a.tmps[87]? = some (.bool false) := by rw [ha]; exact putSel_on (e := (15, 87, .bool false)) 13 rfl rfl (hon 15 (by kernel_rfl)) rfl
                        replace ha := Aside0.mk ha
                        have HB := Aside0.mk Q_HB
                        have MT := Aside0.mk Q_MT
                        have BX := Aside0.mk Q_BX
                        have BT := Aside0.mk Q_BT
                        have CD := Aside0.mk (Q_CD (hon 14 (by kernel_rfl)))
                        refine value_ (w1 := w') (v := .bool false) (by rfl) rfl ?_ ?_
                        · go_simp
                          (try simp only [i64_w])
                          try rfl
                        refine hK.out _ _ ⟨(by rw [ha.out]; exact putSel_upk 14 hb_ rfl rfl rfl), Q_HB, Q_MT, Q_BX, Q_BT, fun h0_ => absurd ((hon 14 (by kernel_rfl)).symm.trans h0_) (by decide), Q_CD⟩
                      exact steps_nil
                    · rintro b a w' hall ⟨ha, Q_HB, Q_MT, Q_BX, Q_BT, Q_CN, Q_CD⟩
                      clear BT BX CN HB MT
                      have hb2_ := hall 2 (by kernel_rfl)
                      have hb3_ := hall 3 (by kernel_rfl)
                      have hb4_ := hall 4 (by kernel_rfl)
                      have hb5_ := hall 5 (by kernel_rfl)
                      have hb6_ := hall 6 (by kernel_rfl)
                      have hb7_ := hall 7 (by kernel_rfl)
                      have hb8_ := hall 8 (by kernel_rfl)
                      have hb9_ := hall 9 (by kernel_rfl)
                      have hb10_ := hall 10 (by kernel_rfl)
                      have hb11_ := hall 11 (by kernel_rfl)
                      have hb12_ := hall 12 (by kernel_rfl)
                      have hb13_ := hall 13 (by kernel_rfl)
                      have hb14_ := hall 14 (by kernel_rfl)
                      have hb15_ := hall 15 (by kernel_rfl)
                      have hb16_ := hall 16 (by kernel_rfl)
                      subst ha
                      simp only [putSel, hb2_, hb3_, hb4_, hb5_, hb6_, hb7_, hb8_, hb9_, hb10_, hb11_, hb12_, hb13_, hb14_, hb15_, hb16_, if_true, Act.put, List.setIfInBounds_toArray, List.set_cons_zero, List.set_cons_succ]
                      have HB := Aside0.mk Q_HB
                      clear Q_HB
                      have MT := Aside0.mk Q_MT
                      clear Q_MT
                      have BX := Aside0.mk Q_BX
                      clear Q_BX
                      have BT := Aside0.mk Q_BT
                      clear Q_BT
                      clear Q_CN
                      have CD := Aside0.mk (Q_CD hb14_)
                      clear Q_CD
                      clear hall hb2_ hb3_ hb4_ hb5_ hb6_ hb7_ hb8_ hb9_ hb10_ hb11_ hb12_ hb13_ hb14_ hb15_ hb16_
                      go_wp2_with fail
                      go_roundw
                      case rel => exact ⟨ii + 1, by go_num, HI4.out, HB.out, MT.out, by rw [HS0.out]; have h_ := CD.out; rw [HKC.out] at h_; rw [Int.natCast_add, ← Int.add_assoc]; exact h_, BX.out⟩
                      case measure =>
                        have := HI4.out
                        simp [intOf]
                        omega
              · obtain rfl : ii = 4 := by omega
                clear h4 hi
                go_wp2_with fail
                obtain ⟨o2, hdel, hT7⟩ := MapT.del fits2 Tryd.underlying57 MT.out HNI.out 67 _ _
                obtain ⟨es, cl, hes, _⟩ := MT.out
                refine ⟨.delete, _, _, _, _, _, rfl, hdel, _, results_tmp rfl _ _ _, rfl, kp_map HB.out hes o2, hT7, ?_⟩
                rw [HZ.out]
                exact (heap_setBlock_other hes o2 HCM.out.2.2).trans CN.out
end Go.Proofs.YtolopkjpodnmkaaDoor.ToursI
