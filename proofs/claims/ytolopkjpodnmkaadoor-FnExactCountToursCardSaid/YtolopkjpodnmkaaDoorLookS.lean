/- The reference's look, walked. Conditions: at most twelve cells with labels. -/
import Derived.Test.YtolopkjpodnmkaaDoorToursI
import Derived.Test.YtolopkjpodnmkaaDoorRowB
namespace Go.Proofs.YtolopkjpodnmkaaDoor.LookS
open Go.RowKit Go.Proofs.YtolopkjpodnmkaaDoorW.PrintWords Go.Proofs.YtolopkjpodnmkaaDoorW.PrintLast Go.Proofs.YtolopkjpodnmkaaDoor.Board Go.Proofs.YtolopkjpodnmkaaDoor.BaseM Go.Proofs.YtolopkjpodnmkaaDoor.LabG Go.Proofs.YtolopkjpodnmkaaDoor.ToursI
open Go.Proofs.YtolopkjpodnmkaaDoor.RowB (rowF row_at sc_cell RB rb_put rb_far put_self put_ne)
open Go.Proofs.YtolopkjpodnmkaaDoor.Reach (St)
open Go.Proofs.YtolopkjpodnmkaaDoor.Tour (B sumTo isIn isIn_iff)
set_option linter.unusedVariables false
set_option linter.unusedSimpArgs false

/-- The search's record: what is left, the first word, the count. -/
abbrev t9 (gw gh : Int) (Vc Vl : Value) (bS N cS : Nat) (left : Int) (fst : ByteArray) (cnt : Int) : Array Value := #[.int .i64 gw, .int .i64 gh, Vc, Vl, .slice (some ⟨bS, 0, none⟩) N cS, .int .i64 left, .string fst, .int .i64 cnt, .int .i64 1073741824]
theorem dirs_calls (w : World) : Calls Tryd.prog 24 #[] w fun e w' => e = .returned (.string ⟨#[110, 101, 115, 119]⟩) ∧ Below w.heap.size w w' := by
  go_enter Tryd.func24, Tryd.ntmps24
  go_wp2_with fail
  go_ret
  exact ⟨rfl, Below.refl _ _⟩
def SN (ix : St → Nat) (GF : St → Prop) (sn : Nat → Bool) (seen : List (Int × Int)) : Prop := ∀ u, GF u → sn (ix u) = isIn (cellOf u) seen
theorem isIn_snoc (c d : Int × Int) : ∀ l : List (Int × Int), isIn c (l ++ [d]) = (isIn c l || decide (c = d))
  | [] => by
    unfold isIn
    by_cases h : c = d <;> simp [h, isIn]
  | y :: l => by
    rw [List.cons_append, isIn, isIn]
    by_cases h : c = y
    · simp [h]
    · rw [if_neg h, if_neg h, isIn_snoc c d l]
theorem sn_put {ix : St → Nat} {GF : St → Prop} {sn : Nat → Bool} {seen : List (Int × Int)} (hix : ∀ u v, GF u → GF v → (ix u = ix v ↔ cellOf u = cellOf v)) (h : SN ix GF sn seen) {v : St} (hv : GF v) : SN ix GF (RowB.put sn (ix v) true) (seen ++ [cellOf v]) := fun u hu => by
  rw [isIn_snoc]
  by_cases e : ix u = ix v
  · rw [e, put_self, decide_eq_true ((hix u v hu hv).1 e), Bool.or_true]
  · rw [put_ne e, h u hu, decide_eq_false (fun e' => e ((hix u v hu hv).2 e')), Bool.or_false]
theorem put_back {sn : Nat → Bool} {i : Nat} (h : sn i = false) : RowB.put (RowB.put sn i true) i false = sn := by
  funext k
  unfold RowB.put
  by_cases e : k = i
  · rw [if_pos e, e, h]
  · rw [if_neg e, if_neg e]
theorem kp_setM {C M : Nat} {w w1 : World} (h : Kp C M w w1) {j : Nat} {v : Value} : Kp C M w (w1.setCell ⟨M, j, none⟩ v) := by
  have hb := (Below.refl 0 w1).setCell (p := ⟨M, j, none⟩) (Nat.zero_le _) v
  refine ⟨hb.os.trans h.os, hb.tape.trans h.tape, hb.output.trans h.output, Nat.le_trans h.size hb.size, fun k hk h1 h2 => ?_⟩
  rw [Below.heap_setCell w1 ⟨M, j, none⟩ v k h2]
  exact h.block k hk h1 h2
def lks.T8 : Bool × List (List Nat × List Nat) := (true, [([], []), ([0], [0]), ([1], [1]), ([2], [2]), ([], []), ([4], [4]), ([5], [5]), ([6], [6]), ([], []), ([], []), ([3, 7, 8, 9], [3, 7, 8, 9]), ([10], [10]), ([11], [11]), ([11], [11]), ([], []), ([14, 12, 10, 0, 1, 2, 3, 4, 5, 6, 7, 8, 9, 10, 11, 12, 14], [12, 14]), ([13, 15, 0, 1, 2, 3, 4, 5, 6, 7, 8, 9, 10, 11, 12, 13, 14, 15], [13])])
def lks.B8 : List Nat := [0, 1, 3, 7, 0, 16, 48, 112, 0, 0, 1023, 2047, 4095, 4095, 0, 24575, 65535]
theorem lks.tab8 : rtab .any (opsOf Tryd.f17 8) = lks.T8 := by kernel_rfl
theorem lks.bits8 : waitsOk lks.T8.2 lks.B8 = true := by kernel_rfl
def lks.T14 : Bool × List (List Nat × List Nat) := (true, [([], []), ([], []), ([], []), ([], []), ([], []), ([], []), ([5], [5]), ([3, 4, 6], [3, 4, 6]), ([2, 7], [2, 7]), ([0, 1, 8, 3], [0, 1, 8])])
def lks.B14 : List Nat := [0, 0, 0, 0, 0, 0, 32, 120, 252, 511]
theorem lks.tab14 : rtab .any (opsOf Tryd.f17 14) = lks.T14 := by kernel_rfl
theorem lks.bits14 : waitsOk lks.T14.2 lks.B14 = true := by kernel_rfl
set_option maxHeartbeats 8000000 in
set_option maxRecDepth 100000 in
theorem look_walk (lab : St → Bool) (lvl : St → Int) (can : St → Nat → Bool) (rS : St → Nat → St) (ix : St → Nat) (Gd GF : St → Prop) (gw gh : Int) (Vc : Value) (bL cL N bS cS T : Nat) (w5 : World) (hT : w5.heap.size ≤ T) (hS : w5.heap.size ≤ bS) (hTS : T ≠ bS)
    (hB : ∀ n s seen, B can moved lab cellOf n s seen ≤ 4 ^ n) (hgo : ∀ s i, Gd s → can s i = true → rS s i = moved s i ∧ GF (moved s i) ∧ (lab (moved s i) = true → Gd (moved s i))) (hix : ∀ u v, GF u → GF v → (ix u = ix v ↔ cellOf u = cellOf v))
    (hin : ∀ u, GF u → ix u < N ∧ IntKind.i64.wrap (IntKind.i64.wrap (u.y * gw) + u.x) = (ix u : Int) ∧ w5.cell? ⟨bL, ix u, none⟩ = some (.int .u8 (lvl u)))
    (hroll : ∀ (s : St) (i : Nat) (W : World), Gd s → i < 4 → Below w5.heap.size w5 W → Calls Tryd.prog 23 #[.agg #[.int .i64 gw, .int .i64 gh, Vc], .slice (some ⟨bL, 0, none⟩) N cL, .agg (st8 s), .int .i64 ((i : Nat) : Int)] W fun e w' => e = .returned (.tuple #[.agg (st8 (rS s i)), .bool (can s i)]) ∧ Below W.heap.size W w')
    (hdig : ∀ (u : St) (W : World), GF u → Below w5.heap.size w5 W → Calls Tryd.prog 15 #[.int .u8 (lvl u)] W fun e w' => e = .returned (.bool (lab u)) ∧ Below W.heap.size W w') :
    ∀ (n : Nat) (s : St) (seen : List (Int × Int)) (sn : Nat → Bool) (word fst : ByteArray) (k : Int) (W : World), n < 12 → Gd s → Below w5.heap.size w5 W → SN ix GF sn seen → RB w5.heap.size W bS N cS sn → W.heap[T]? = some (.cells (t9 gw gh Vc (.slice (some ⟨bL, 0, none⟩) N cL) bS N cS (n : Int) fst k) 40 (0, 0)) → 0 ≤ k ∧ k + ((4 ^ n : Nat) : Int) ≤ 1073741823 → word.size + n ≤ 100 →
    Calls Tryd.prog 17 #[.pointer (some ⟨T, 0, none⟩), .agg (st8 s), .string word] W fun e W' =>
      ∃ fst', e = .returned (.tuple #[]) ∧ Kp T bS W W' ∧ RB w5.heap.size W' bS N cS sn ∧ W'.heap[T]? = some (.cells (t9 gw gh Vc (.slice (some ⟨bL, 0, none⟩) N cL) bS N cS (n : Int) fst' (k + (B can moved lab cellOf n s seen : Int))) 40 (0, 0)) := by
  have HROLL := Go.Lib.hid hroll
  have HDIG := Go.Lib.hid hdig
  have HGO := Go.Lib.hid hgo
  have HIX := Go.Lib.hid (And.intro hix hin)
  have HTS := Go.Lib.hid (And.intro hT (And.intro hS hTS))
  have HBL := Go.Lib.hid hB
  clear hroll hdig hgo hix hin hT hS hTS hB
  intro n
  induction n using Nat.strongRecOn with
  | _ n ih =>
    intro s seen sn word fst k W hn hGd hW5 hSN hRB hTB hk hsz
    have HIH := Go.Lib.hid ih
    have HN := Go.Lib.hid hn
    have HGD := Go.Lib.hid hGd
    have HW5 := Go.Lib.hid hW5
    have HSN := Go.Lib.hid hSN
    have HK := Go.Lib.hid hk
    have HSZ := Go.Lib.hid hsz
    have hb1 : Below W.heap.size W (W.alloc (.cells (st8 s) 30)) := (Below.refl _ W).alloc (Nat.le_refl _) _
    have HX := Go.Lib.hid (And.intro (kp_then (kp_refl (C := T) (M := bS) W) hb1) (And.intro (Kd.R_below hRB hb1) (And.intro (blk_below hTB hb1) (blk_new W (.cells (st8 s) 30)))))
    have HLT := Go.Lib.hid (And.intro (blk_lt hTB) (Kd.R_lt hRB bS rfl))
    obtain ⟨cnt, hcnt⟩ : ∃ cnt, cnt = B can moved lab cellOf n s seen := ⟨_, rfl⟩
    rw [← hcnt]
    have HCNT := Go.Lib.hid hcnt
    obtain ⟨lf, hlf⟩ : ∃ lf : Int, lf = (n : Int) := ⟨_, rfl⟩
    rw [← hlf] at HX ⊢
    have HLF := Go.Lib.hid hlf
    obtain ⟨sB, hsB⟩ : ∃ sB, sB = W.heap.size := ⟨_, rfl⟩
    have HSB := Go.Lib.hid hsB
    clear ih hn hGd hW5 hSN hRB hTB hk hsz hb1 hcnt hlf
    go_enter Tryd.func17, Tryd.ntmps17
    go_upto_region 1 with fail
    rw [← hsB] at HX HLT ⊢
    clear hsB
    generalize World.alloc _ _ = w1 at HX ⊢
    have l5_ : w1.cell? ⟨T, 5, none⟩ = some (.int .i64 lf) := blk_cell HX.out.2.2.1 5
    by_cases h0 : n = 0
    · subst h0
      have hl0 : lf = 0 := HLF.out
      subst hl0
      have hz : cnt = 1 := by rw [HCNT.out, B]
      have l7_ : w1.cell? ⟨T, 7, none⟩ = some (.int .i64 k) := blk_cell HX.out.2.2.1 7
      have l6_ : w1.cell? ⟨T, 6, none⟩ = some (.string fst) := blk_cell HX.out.2.2.1 6
      have f6_ := blk_frozen HX.out.2.2.1 6
      have f7_ := blk_frozen HX.out.2.2.1 7
      have hw_ : IntKind.i64.wrap (k + 1) = k + 1 := IntWalk.i64_in _ (by have h_ := HK.out; omega)
      by_cases hk0 : k = 0
      · subst hk0
        have n_TB := Go.Lib.hid (blk_put (cs := t9 gw gh Vc (.slice (some ⟨bL, 0, none⟩) N cL) bS N cS 0 fst 0) (cs' := t9 gw gh Vc (.slice (some ⟨bL, 0, none⟩) N cL) bS N cS 0 word 0) HX.out.2.2.1 6 (.string word) rfl)
        have n_TB2 := Go.Lib.hid (blk_put (cs := t9 gw gh Vc (.slice (some ⟨bL, 0, none⟩) N cL) bS N cS 0 word 0) (cs' := t9 gw gh Vc (.slice (some ⟨bL, 0, none⟩) N cL) bS N cS 0 word 1) n_TB.out 7 (.int .i64 1) rfl)
        have n_HB := Go.Lib.hid (kp_set (j := 7) (v := .int .i64 1) (kp_set (j := 6) (v := .string word) HX.out.1 (.inr rfl)) (.inr rfl))
        have n_RB := Go.Lib.hid (rb_far (p := ⟨T, 7, none⟩) (rb_far (p := ⟨T, 6, none⟩) HX.out.2.1 (fun h_ => HTS.out.2.2 h_.symm) (.string word)) (fun h_ => HTS.out.2.2 h_.symm) (.int .i64 1))
        go_wp2_with fail
        first | go_end0 | (simp only [Exit.inBlock, Exit.then]; refine bodyPost_ret (results_none rfl _ _ _) rfl ?_) | refine bodyPost_ret (results_none rfl _ _ _) rfl ?_
        refine ⟨word, rfl, n_HB.out, n_RB.out, ?_⟩
        rw [hz]
        exact n_TB2.out
      · have hk1 : (k == 0) = false := by simpa using hk0
        have hk2 : decide (k = 0) = false := decide_eq_false hk0
        have n_TB := Go.Lib.hid (blk_put (cs := t9 gw gh Vc (.slice (some ⟨bL, 0, none⟩) N cL) bS N cS 0 fst k) (cs' := t9 gw gh Vc (.slice (some ⟨bL, 0, none⟩) N cL) bS N cS 0 fst (k + 1)) HX.out.2.2.1 7 (.int .i64 (k + 1)) rfl)
        have n_HB := Go.Lib.hid (kp_set (j := 7) (v := .int .i64 (k + 1)) HX.out.1 (.inr rfl))
        have n_RB := Go.Lib.hid (rb_far (p := ⟨T, 7, none⟩) HX.out.2.1 (fun h_ => HTS.out.2.2 h_.symm) (.int .i64 (k + 1)))
        go_wp2_with fail
        first | go_end0 | (simp only [Exit.inBlock, Exit.then]; refine bodyPost_ret (results_none rfl _ _ _) rfl ?_) | refine bodyPost_ret (results_none rfl _ _ _) rfl ?_
        refine ⟨fst, rfl, n_HB.out, n_RB.out, ?_⟩
        rw [hz]
        exact n_TB.out
    · obtain ⟨m, rfl⟩ : ∃ m, n = m + 1 := ⟨n - 1, by omega⟩
      have hl1 : ¬ lf = 0 := by have := HLF.out; omega
      have hl2 : (lf == 0) = false := by simpa using hl1
      have hl3 : decide (lf = 0) = false := decide_eq_false hl1
      obtain ⟨F, hF⟩ : ∃ F : Nat → Nat, F = fun i => if (can s i && !(isIn (cellOf (moved s i)) seen)) && lab (moved s i) then B can moved lab cellOf m (moved s i) (seen ++ [cellOf (moved s i)]) else 0 := ⟨_, rfl⟩
      have HZ := Go.Lib.hid (show cnt = sumTo F 4 by rw [HCNT.out, B, hF])
      have HF := Go.Lib.hid (show ∀ i, F i = if (can s i && !(isIn (cellOf (moved s i)) seen)) && lab (moved s i) then B can moved lab cellOf m (moved s i) (seen ++ [cellOf (moved s i)]) else 0 from fun i => by rw [hF])
      have HFL := Go.Lib.hid (show ∀ i, F i ≤ 4 ^ m from fun i => by
        rw [HF.out i]
        split
        · exact HBL.out m _ _
        · exact Nat.zero_le _)
      clear h0 hF
      go_wp2_with fail
      clear l5_ hl1 hl2 hl3
      go_loopw [6] (fun v6 wr => ∃ i : Nat, v6 = .int .i64 (i : Int) ∧ i ≤ 4 ∧ Kp T bS W wr ∧ RB w5.heap.size wr bS N cS sn ∧ (∃ f, wr.heap[T]? = some (.cells (t9 gw gh Vc (.slice (some ⟨bL, 0, none⟩) N cL) bS N cS lf f (k + (sumTo F i : Int))) 40 (0, 0))) ∧ wr.heap[sB]? = some (.cells (st8 s) 30 (0, 0))) (fun v6 _ => 4 - (intOf v6).toNat)
      case atStart => exact ⟨0, rfl, by omega, HX.out.1, HX.out.2.1, ⟨fst, by have h_ := HX.out.2.2.1; rwa [show k + ((sumTo F 0 : Nat) : Int) = k from Int.add_zero k]⟩, HX.out.2.2.2⟩
      case round =>
        clear HX
        obtain ⟨ii, rfl, hi, hB, hR, ⟨f, hT⟩, hBX⟩ := hrel
        have HB := Go.Lib.hid hB
        have HR := Go.Lib.hid hR
        have BX := Go.Lib.hid hBX
        obtain ⟨kc, hkc⟩ : ∃ kc, kc = k + (sumTo F ii : Int) := ⟨_, rfl⟩
        rw [← hkc] at hT
        have HT := Go.Lib.hid hT
        have HKC := Go.Lib.hid hkc
        clear hB hR hBX hT hkc
        by_cases h4 : ii < 4
        · have HI4 := Go.Lib.hid h4
          have HKL := Go.Lib.hid (show 0 ≤ kc ∧ kc + ((4 ^ m : Nat) : Int) ≤ 1073741823 by
            have h1 := Tour.sumTo_le (f := F) (c := 4 ^ m) (n := ii) (fun i _ => HFL.out i)
            have h2 := HK.out
            have h3 : (4 ^ (m + 1) : Nat) = 4 ^ m * 4 := Nat.pow_succ ..
            have h5 : ii * 4 ^ m ≤ 3 * 4 ^ m := Nat.mul_le_mul_right _ (by omega)
            rw [HKC.out]
            omega)
          have hii : (ii : Int) < 4 := by omega
          have hii2 : decide ((ii : Int) < 4) = true := decide_eq_true hii
          have hm_ : decide (kc < 1073741824) = true := decide_eq_true (by have h_ := HKL.out; have h2_ : (0 : Int) ≤ ((4 ^ m : Nat) : Int) := Int.natCast_nonneg _; omega)
          have l7_ : wr.cell? ⟨T, 7, none⟩ = some (.int .i64 kc) := blk_cell HT.out 7
          have l8_ : wr.cell? ⟨T, 8, none⟩ = some (.int .i64 1073741824) := blk_cell HT.out 8
          obtain ⟨v, hv⟩ : ∃ v, v = rS s ii := ⟨_, rfl⟩
          obtain ⟨cn, hcn⟩ : ∃ cn, cn = can s ii := ⟨_, rfl⟩
          have HV := Go.Lib.hid (And.intro hv hcn)
          have HMV := Go.Lib.hid (fun W' (hW' : Kp T bS W W') => HROLL.out s ii W' HGD.out h4 (kp_below HW5.out hW' HTS.out.1 HTS.out.2.1))
          rw [← hv, ← hcn] at HMV
          clear hv hcn h4 hi
          go_upto_region 6 with fail
          go_quiet (fail)
          have n_HB := Go.Lib.hid (kp_below0 HB.out (pw_below_drewN (Below.refl _ _) nq))
          have n_HR := Go.Lib.hid (Kd.R_below HR.out (pw_below_drewN (Below.refl _ _) nq))
          have n_HT := Go.Lib.hid (blk_drewN HT.out nq)
          have n_BX := Go.Lib.hid (blk_drewN BX.out nq)
          clear HB HR HT BX
          have HB := n_HB
          have HR := n_HR
          have HT := n_HT
          have BX := n_BX
          clear n_HB n_HR n_HT n_BX
          clear l7_ l8_ hm_ hii2
          generalize World.drewN _ _ = w6 at HB HR HT BX ⊢
          go_upto_region 8 with fail
          refine start_ (n := 17) (S := fun w' => True) (ds := []) #[false, false, false, false, false, false, false, false, false, false, false, false, false, false, false, false, false] (by kernel_rfl) rfl rfl trivial (fun hHeld => ?_)
          refine with_tabW lks.tab8 lks.bits8 (fun HT_ HW_ => ?_)
          have n_HB := Go.Lib.hid (kp_drew HB.out)
          have n_HR := Go.Lib.hid (Kd.R_below HR.out (below_drew (Below.refl _ _)))
          have n_HT := Go.Lib.hid (blk_drew HT.out)
          have n_BX := Go.Lib.hid (blk_drew BX.out)
          clear HB HR HT BX
          have HB := n_HB
          have HR := n_HR
          have HT := n_HT
          have BX := n_BX
          clear n_HB n_HR n_HT n_BX
          generalize World.drew _ = w8 at HB HR HT BX hHeld ⊢
          refine pure_ (i := 0) (N := some 47) (v := ?_) (a' := ?_) #[true, false, false, false, false, false, false, false, false, false, false, false, false, false, false, false, false] rfl rfl (any_of HT_.out (by kernel_rfl)) (fun _ _ _ h => h) (Or.inl ⟨by rfl, ?_⟩) ?_ ?_
          rotate_left
          · intro w'
            go_simp
            with_reducible rfl
          rotate_left
          · simp only [Act.put, List.setIfInBounds_toArray, List.set_cons_zero, List.set_cons_succ, i64_w, i32_w]
            rfl
          refine pure_ (i := 4) (N := some 51) (v := ?_) (a' := ?_) #[true, false, false, false, true, false, false, false, false, false, false, false, false, false, false, false, false] rfl rfl (any_of HT_.out (by kernel_rfl)) (fun _ _ _ h => h) (Or.inl ⟨by rfl, ?_⟩) ?_ ?_
          rotate_left
          · intro w'
            go_simp
            with_reducible rfl
          rotate_left
          · simp only [Act.put, List.setIfInBounds_toArray, List.set_cons_zero, List.set_cons_succ, i64_w, i32_w]
            rfl
          refine pure_ (i := 9) (N := some 56) (v := ?_) (a' := ?_) #[true, false, false, false, true, false, false, false, false, true, false, false, false, false, false, false, false] rfl rfl (any_of HT_.out (by kernel_rfl)) (fun _ _ _ h => h) (Or.inl ⟨by rfl, ?_⟩) ?_ ?_
          rotate_left
          · intro w'
            go_simp
            with_reducible rfl
          rotate_left
          · simp only [Act.put, List.setIfInBounds_toArray, List.set_cons_zero, List.set_cons_succ, i64_w, i32_w]
            rfl
          refine inv_at [1, 2, 3, 5, 6, 7, 8, 10, 11, 12, 13, 14, 15, 16] (fun a0_ b a w' => ∃ (gt_ : Nat) (m14_ : Value), a = putSel a0_ b [(1, 48, .pointer (some ⟨T, 0, none⟩)), (2, 49, .pointer (some ⟨T, 0, none⟩)), (3, 50, .agg #[.int .i64 gw, .int .i64 gh, Vc]), (5, 52, .pointer (some ⟨T, 0, none⟩)), (6, 53, .pointer (some ⟨T, 3, none⟩)), (7, 54, .slice (some ⟨bL, 0, none⟩) N cL), (8, 55, .agg #[.int .i64 s.x, .int .i64 s.y, .int .i64 s.d.t, .int .i64 s.d.n, .int .i64 s.d.e, .int .i64 s.d.s, .int .i64 s.d.w, .int .i64 s.d.b]), (10, 57, .tuple #[.agg #[.int .i64 v.x, .int .i64 v.y, .int .i64 v.d.t, .int .i64 v.d.n, .int .i64 v.d.e, .int .i64 v.d.s, .int .i64 v.d.w, .int .i64 v.d.b], .bool cn]), (11, 46, .tuple #[.agg #[.int .i64 v.x, .int .i64 v.y, .int .i64 v.d.t, .int .i64 v.d.n, .int .i64 v.d.e, .int .i64 v.d.s, .int .i64 v.d.w, .int .i64 v.d.b], .bool cn]), (12, 58, .agg #[.int .i64 v.x, .int .i64 v.y, .int .i64 v.d.t, .int .i64 v.d.n, .int .i64 v.d.e, .int .i64 v.d.s, .int .i64 v.d.w, .int .i64 v.d.b]), (13, 59, .bool cn), (14, 7, m14_), (16, 8, .bool cn)] ∧ (Kp T bS W w') ∧ (RB w5.heap.size w' bS N cS sn) ∧ (w'.heap[T]? = some (.cells (t9 gw gh Vc (.slice (some ⟨bL, 0, none⟩) N cL) bS N cS lf f kc) 40 (0, 0))) ∧ (w'.heap[sB]? = some (.cells (st8 s) 30 (0, 0))) ∧ (b 14 = true → b 15 = false → w'.heap[gt_]? = some (.cells #[.int .i64 0, .int .i64 0, .int .i64 0, .int .i64 0, .int .i64 0, .int .i64 0, .int .i64 0, .int .i64 0] 30 (0, 0)) ∧ W.heap.size ≤ gt_ ∧ gt_ ≠ T ∧ gt_ ≠ bS ∧ gt_ ≠ sB) ∧ (b 15 = true → w'.heap[gt_]? = some (.cells (st8 v) 30 (0, 0)) ∧ W.heap.size ≤ gt_ ∧ gt_ ≠ T ∧ gt_ ≠ bS ∧ gt_ ≠ sB) ∧ (b 14 = true → (m14_ : Value) = .pointer (some ⟨gt_, 0, none⟩))) HT_.out HW_.out (by kernel_rfl) (by kernel_rfl) ?_ ?_ ?_
          · exact ⟨0, .bool false, by simp only [putSel, Bool.false_eq_true, if_false], HB.out, HR.out, HT.out, BX.out, fun h_ => absurd h_ (by decide), fun h_ => absurd h_ (by decide), fun h_ => absurd h_ (by decide)⟩
          · skip
            clear BX HB HR HT
            refine steps_cons ?_ ?_
            · rintro b a w' ⟨gt_, m14_, ha, Q_HB, Q_HR, Q_HT, Q_BX, Q_Z0, Q_BT, Q_X14_⟩ hb_ hon hoff
              refine ⟨_, rfl, fun K hK => ?_⟩
              have e47 : a.tmps[47]? = some (.pointer (some ⟨T, 0, none⟩)) := by rw [ha]; exact (putSel_off rfl).trans rfl
              replace ha := Aside0.mk ha
              have HB := Aside0.mk Q_HB
              have HR := Aside0.mk Q_HR
              have HT := Aside0.mk Q_HT
              have BX := Aside0.mk Q_BX
              refine value_ (w1 := w') (v := .pointer (some ⟨T, 0, none⟩)) (by rfl) rfl ?_ ?_
              · go_simp
                (try simp only [i64_w])
                try rfl
              refine hK.out _ _ ⟨gt_, m14_, (by rw [ha.out]; exact putSel_upk 0 hb_ rfl rfl rfl), Q_HB, Q_HR, Q_HT, Q_BX, Q_Z0, fun h0_ => absurd ((hoff 15 (by kernel_rfl)).symm.trans h0_) (by decide), Q_X14_⟩
            refine steps_cons ?_ ?_
            · rintro b a w' ⟨gt_, m14_, ha, Q_HB, Q_HR, Q_HT, Q_BX, Q_Z0, Q_BT, Q_X14_⟩ hb_ hon hoff
              refine ⟨_, rfl, fun K hK => ?_⟩
              have e48 : a.tmps[48]? = some (.pointer (some ⟨T, 0, none⟩)) := by rw [ha]; exact putSel_on (e := (1, 48, .pointer (some ⟨T, 0, none⟩))) 0 rfl rfl (hon 1 (by kernel_rfl)) rfl
              replace ha := Aside0.mk ha
              have HB := Aside0.mk Q_HB
              have HR := Aside0.mk Q_HR
              have HT := Aside0.mk Q_HT
              have BX := Aside0.mk Q_BX
              refine value_ (w1 := w') (v := .pointer (some ⟨T, 0, none⟩)) (by rfl) rfl ?_ ?_
              · go_simp
                (try simp only [i64_w])
                try rfl
              refine hK.out _ _ ⟨gt_, m14_, (by rw [ha.out]; exact putSel_upk 1 hb_ rfl rfl rfl), Q_HB, Q_HR, Q_HT, Q_BX, Q_Z0, fun h0_ => absurd ((hoff 15 (by kernel_rfl)).symm.trans h0_) (by decide), Q_X14_⟩
            refine steps_cons ?_ ?_
            · rintro b a w' ⟨gt_, m14_, ha, Q_HB, Q_HR, Q_HT, Q_BX, Q_Z0, Q_BT, Q_X14_⟩ hb_ hon hoff
              refine ⟨_, rfl, fun K hK => ?_⟩
              have e49 : a.tmps[49]? = some (.pointer (some ⟨T, 0, none⟩)) := by rw [ha]; exact putSel_on (e := (2, 49, .pointer (some ⟨T, 0, none⟩))) 1 rfl rfl (hon 2 (by kernel_rfl)) rfl
              replace ha := Aside0.mk ha
              have HB := Aside0.mk Q_HB
              have HR := Aside0.mk Q_HR
              have HT := Aside0.mk Q_HT
              have BX := Aside0.mk Q_BX
              have o0 : w'.cell? ⟨T, 0, none⟩ = some (.int .i64 gw) := blk_cell HT.out 0
              have o1 : w'.cell? ⟨T, 1, none⟩ = some (.int .i64 gh) := blk_cell HT.out 1
              have o2 : w'.cell? ⟨T, 2, none⟩ = some Vc := blk_cell HT.out 2
              refine value_ (w1 := w') (v := .agg #[.int .i64 gw, .int .i64 gh, Vc]) (by rfl) rfl ?_ ?_
              · go_simp
                (try simp only [i64_w])
                try rfl
              refine hK.out _ _ ⟨gt_, m14_, (by rw [ha.out]; exact putSel_upk 2 hb_ rfl rfl rfl), Q_HB, Q_HR, Q_HT, Q_BX, Q_Z0, fun h0_ => absurd ((hoff 15 (by kernel_rfl)).symm.trans h0_) (by decide), Q_X14_⟩
            refine steps_cons ?_ ?_
            · rintro b a w' ⟨gt_, m14_, ha, Q_HB, Q_HR, Q_HT, Q_BX, Q_Z0, Q_BT, Q_X14_⟩ hb_ hon hoff
              refine ⟨_, rfl, fun K hK => ?_⟩
              have e51 : a.tmps[51]? = some (.pointer (some ⟨T, 0, none⟩)) := by rw [ha]; exact (putSel_off rfl).trans rfl
              replace ha := Aside0.mk ha
              have HB := Aside0.mk Q_HB
              have HR := Aside0.mk Q_HR
              have HT := Aside0.mk Q_HT
              have BX := Aside0.mk Q_BX
              refine value_ (w1 := w') (v := .pointer (some ⟨T, 0, none⟩)) (by rfl) rfl ?_ ?_
              · go_simp
                (try simp only [i64_w])
                try rfl
              refine hK.out _ _ ⟨gt_, m14_, (by rw [ha.out]; exact putSel_upk 3 hb_ rfl rfl rfl), Q_HB, Q_HR, Q_HT, Q_BX, Q_Z0, fun h0_ => absurd ((hoff 15 (by kernel_rfl)).symm.trans h0_) (by decide), Q_X14_⟩
            refine steps_cons ?_ ?_
            · rintro b a w' ⟨gt_, m14_, ha, Q_HB, Q_HR, Q_HT, Q_BX, Q_Z0, Q_BT, Q_X14_⟩ hb_ hon hoff
              refine ⟨_, rfl, fun K hK => ?_⟩
              have e52 : a.tmps[52]? = some (.pointer (some ⟨T, 0, none⟩)) := by rw [ha]; exact putSel_on (e := (5, 52, .pointer (some ⟨T, 0, none⟩))) 3 rfl rfl (hon 5 (by kernel_rfl)) rfl
              replace ha := Aside0.mk ha
              have HB := Aside0.mk Q_HB
              have HR := Aside0.mk Q_HR
              have HT := Aside0.mk Q_HT
              have BX := Aside0.mk Q_BX
              refine value_ (w1 := w') (v := .pointer (some ⟨T, 3, none⟩)) (by rfl) rfl ?_ ?_
              · go_simp
                (try simp only [i64_w])
                try rfl
              refine hK.out _ _ ⟨gt_, m14_, (by rw [ha.out]; exact putSel_upk 4 hb_ rfl rfl rfl), Q_HB, Q_HR, Q_HT, Q_BX, Q_Z0, fun h0_ => absurd ((hoff 15 (by kernel_rfl)).symm.trans h0_) (by decide), Q_X14_⟩
            refine steps_cons ?_ ?_
            · rintro b a w' ⟨gt_, m14_, ha, Q_HB, Q_HR, Q_HT, Q_BX, Q_Z0, Q_BT, Q_X14_⟩ hb_ hon hoff
              refine ⟨_, rfl, fun K hK => ?_⟩
              have e53 : a.tmps[53]? = some (.pointer (some ⟨T, 3, none⟩)) := by rw [ha]; exact putSel_on (e := (6, 53, .pointer (some ⟨T, 3, none⟩))) 4 rfl rfl (hon 6 (by kernel_rfl)) rfl
              replace ha := Aside0.mk ha
              have HB := Aside0.mk Q_HB
              have HR := Aside0.mk Q_HR
              have HT := Aside0.mk Q_HT
              have BX := Aside0.mk Q_BX
              have o3 : w'.cell? ⟨T, 3, none⟩ = some (.slice (some ⟨bL, 0, none⟩) N cL) := blk_cell HT.out 3
              refine value_ (w1 := w') (v := .slice (some ⟨bL, 0, none⟩) N cL) (by rfl) rfl ?_ ?_
              · go_simp
                (try simp only [i64_w])
                try rfl
              refine hK.out _ _ ⟨gt_, m14_, (by rw [ha.out]; exact putSel_upk 5 hb_ rfl rfl rfl), Q_HB, Q_HR, Q_HT, Q_BX, Q_Z0, fun h0_ => absurd ((hoff 15 (by kernel_rfl)).symm.trans h0_) (by decide), Q_X14_⟩
            refine steps_cons ?_ ?_
            · rintro b a w' ⟨gt_, m14_, ha, Q_HB, Q_HR, Q_HT, Q_BX, Q_Z0, Q_BT, Q_X14_⟩ hb_ hon hoff
              refine ⟨_, rfl, fun K hK => ?_⟩
              have e4 : a.tmps[4]? = some (.pointer (some ⟨sB, 0, none⟩)) := by rw [ha]; exact (putSel_off rfl).trans rfl
              replace ha := Aside0.mk ha
              have HB := Aside0.mk Q_HB
              have HR := Aside0.mk Q_HR
              have HT := Aside0.mk Q_HT
              have BX := Aside0.mk Q_BX
              have o0 : w'.cell? ⟨sB, 0, none⟩ = some (.int .i64 s.x) := blk_cell BX.out 0
              have o1 : w'.cell? ⟨sB, 1, none⟩ = some (.int .i64 s.y) := blk_cell BX.out 1
              have o2 : w'.cell? ⟨sB, 2, none⟩ = some (.int .i64 s.d.t) := blk_cell BX.out 2
              have o3 : w'.cell? ⟨sB, 3, none⟩ = some (.int .i64 s.d.n) := blk_cell BX.out 3
              have o4 : w'.cell? ⟨sB, 4, none⟩ = some (.int .i64 s.d.e) := blk_cell BX.out 4
              have o5 : w'.cell? ⟨sB, 5, none⟩ = some (.int .i64 s.d.s) := blk_cell BX.out 5
              have o6 : w'.cell? ⟨sB, 6, none⟩ = some (.int .i64 s.d.w) := blk_cell BX.out 6
              have o7 : w'.cell? ⟨sB, 7, none⟩ = some (.int .i64 s.d.b) := blk_cell BX.out 7
              refine value_ (w1 := w') (v := .agg #[.int .i64 s.x, .int .i64 s.y, .int .i64 s.d.t, .int .i64 s.d.n, .int .i64 s.d.e, .int .i64 s.d.s, .int .i64 s.d.w, .int .i64 s.d.b]) (by rfl) rfl ?_ ?_
              · go_simp
                (try simp only [i64_w])
                try rfl
              refine hK.out _ _ ⟨gt_, m14_, (by rw [ha.out]; exact putSel_upk 6 hb_ rfl rfl rfl), Q_HB, Q_HR, Q_HT, Q_BX, Q_Z0, fun h0_ => absurd ((hoff 15 (by kernel_rfl)).symm.trans h0_) (by decide), Q_X14_⟩
            refine steps_cons ?_ ?_
            · rintro b a w' ⟨gt_, m14_, ha, Q_HB, Q_HR, Q_HT, Q_BX, Q_Z0, Q_BT, Q_X14_⟩ hb_ hon hoff
              refine ⟨_, rfl, fun K hK => ?_⟩
              have e50 : a.tmps[50]? = some (.agg #[.int .i64 gw, .int .i64 gh, Vc]) := by rw [ha]; exact putSel_on (e := (3, 50, .agg #[.int .i64 gw, .int .i64 gh, Vc])) 2 rfl rfl (hon 3 (by kernel_rfl)) rfl
              have e54 : a.tmps[54]? = some (.slice (some ⟨bL, 0, none⟩) N cL) := by rw [ha]; exact putSel_on (e := (7, 54, .slice (some ⟨bL, 0, none⟩) N cL)) 5 rfl rfl (hon 7 (by kernel_rfl)) rfl
              have e55 : a.tmps[55]? = some (.agg #[.int .i64 s.x, .int .i64 s.y, .int .i64 s.d.t, .int .i64 s.d.n, .int .i64 s.d.e, .int .i64 s.d.s, .int .i64 s.d.w, .int .i64 s.d.b]) := by rw [ha]; exact putSel_on (e := (8, 55, .agg #[.int .i64 s.x, .int .i64 s.y, .int .i64 s.d.t, .int .i64 s.d.n, .int .i64 s.d.e, .int .i64 s.d.s, .int .i64 s.d.w, .int .i64 s.d.b])) 6 rfl rfl (hon 8 (by kernel_rfl)) rfl
              have e56 : a.tmps[56]? = some (.int .i64 (ii : Int)) := by rw [ha]; exact (putSel_off rfl).trans rfl
              replace ha := Aside0.mk ha
              have HB := Aside0.mk Q_HB
              have HR := Aside0.mk Q_HR
              have HT := Aside0.mk Q_HT
              have BX := Aside0.mk Q_BX
              refine call_ 23 #[.agg #[.int .i64 gw, .int .i64 gh, Vc], .slice (some ⟨bL, 0, none⟩) N cL, .agg #[.int .i64 s.x, .int .i64 s.y, .int .i64 s.d.t, .int .i64 s.d.n, .int .i64 s.d.e, .int .i64 s.d.s, .int .i64 s.d.w, .int .i64 s.d.b], .int .i64 (ii : Int)] (by rfl) rfl ?_ ?_
              · go_simp
                (try rfl)
              with_reducible refine (HMV.out w' HB.out).mono ?_
              rintro e' w1 ⟨rfl, hb⟩
              refine ⟨_, rfl, ?_⟩
              refine hK.out _ _ ⟨gt_, m14_, (by rw [ha.out]; exact putSel_upk 7 hb_ rfl rfl rfl), kp_then HB.out hb, Kd.R_below HR.out hb, blk_below HT.out hb, blk_below BX.out hb, fun h0_ h1_ => ⟨blk_below (Q_Z0 h0_ h1_).1 hb, (Q_Z0 h0_ h1_).2⟩, fun h0_ => absurd ((hoff 15 (by kernel_rfl)).symm.trans h0_) (by decide), Q_X14_⟩
            refine steps_cons ?_ ?_
            · rintro b a w' ⟨gt_, m14_, ha, Q_HB, Q_HR, Q_HT, Q_BX, Q_Z0, Q_BT, Q_X14_⟩ hb_ hon hoff
              refine ⟨_, rfl, fun K hK => ?_⟩
              have e57 : a.tmps[57]? = some (.tuple #[.agg #[.int .i64 v.x, .int .i64 v.y, .int .i64 v.d.t, .int .i64 v.d.n, .int .i64 v.d.e, .int .i64 v.d.s, .int .i64 v.d.w, .int .i64 v.d.b], .bool cn]) := by rw [ha]; exact putSel_on (e := (10, 57, .tuple #[.agg #[.int .i64 v.x, .int .i64 v.y, .int .i64 v.d.t, .int .i64 v.d.n, .int .i64 v.d.e, .int .i64 v.d.s, .int .i64 v.d.w, .int .i64 v.d.b], .bool cn])) 7 rfl rfl (hon 10 (by kernel_rfl)) rfl
              replace ha := Aside0.mk ha
              have HB := Aside0.mk Q_HB
              have HR := Aside0.mk Q_HR
              have HT := Aside0.mk Q_HT
              have BX := Aside0.mk Q_BX
              refine value_ (w1 := w') (v := .tuple #[.agg #[.int .i64 v.x, .int .i64 v.y, .int .i64 v.d.t, .int .i64 v.d.n, .int .i64 v.d.e, .int .i64 v.d.s, .int .i64 v.d.w, .int .i64 v.d.b], .bool cn]) (by rfl) rfl ?_ ?_
              · go_simp
                (try simp only [i64_w])
                try rfl
              refine hK.out _ _ ⟨gt_, m14_, (by rw [ha.out]; exact putSel_upk 8 hb_ rfl rfl rfl), Q_HB, Q_HR, Q_HT, Q_BX, Q_Z0, fun h0_ => absurd ((hoff 15 (by kernel_rfl)).symm.trans h0_) (by decide), Q_X14_⟩
            refine steps_cons ?_ ?_
            · rintro b a w' ⟨gt_, m14_, ha, Q_HB, Q_HR, Q_HT, Q_BX, Q_Z0, Q_BT, Q_X14_⟩ hb_ hon hoff
              refine ⟨_, rfl, fun K hK => ?_⟩
              have e46 : a.tmps[46]? = some (.tuple #[.agg #[.int .i64 v.x, .int .i64 v.y, .int .i64 v.d.t, .int .i64 v.d.n, .int .i64 v.d.e, .int .i64 v.d.s, .int .i64 v.d.w, .int .i64 v.d.b], .bool cn]) := by rw [ha]; exact putSel_on (e := (11, 46, .tuple #[.agg #[.int .i64 v.x, .int .i64 v.y, .int .i64 v.d.t, .int .i64 v.d.n, .int .i64 v.d.e, .int .i64 v.d.s, .int .i64 v.d.w, .int .i64 v.d.b], .bool cn])) 8 rfl rfl (hon 11 (by kernel_rfl)) rfl
              replace ha := Aside0.mk ha
              have HB := Aside0.mk Q_HB
              have HR := Aside0.mk Q_HR
              have HT := Aside0.mk Q_HT
              have BX := Aside0.mk Q_BX
              refine value_ (w1 := w') (v := .agg #[.int .i64 v.x, .int .i64 v.y, .int .i64 v.d.t, .int .i64 v.d.n, .int .i64 v.d.e, .int .i64 v.d.s, .int .i64 v.d.w, .int .i64 v.d.b]) (by rfl) rfl ?_ ?_
              · go_simp
                (try simp only [i64_w])
                try rfl
              refine hK.out _ _ ⟨gt_, m14_, (by rw [ha.out]; exact putSel_upk 9 hb_ rfl rfl rfl), Q_HB, Q_HR, Q_HT, Q_BX, Q_Z0, fun h0_ => absurd ((hoff 15 (by kernel_rfl)).symm.trans h0_) (by decide), Q_X14_⟩
            refine steps_cons ?_ ?_
            · rintro b a w' ⟨gt_, m14_, ha, Q_HB, Q_HR, Q_HT, Q_BX, Q_Z0, Q_BT, Q_X14_⟩ hb_ hon hoff
              refine ⟨_, rfl, fun K hK => ?_⟩
              have e46 : a.tmps[46]? = some (.tuple #[.agg #[.int .i64 v.x, .int .i64 v.y, .int .i64 v.d.t, .int .i64 v.d.n, .int .i64 v.d.e, .int .i64 v.d.s, .int .i64 v.d.w, .int .i64 v.d.b], .bool cn]) := by rw [ha]; exact putSel_on (e := (11, 46, .tuple #[.agg #[.int .i64 v.x, .int .i64 v.y, .int .i64 v.d.t, .int .i64 v.d.n, .int .i64 v.d.e, .int .i64 v.d.s, .int .i64 v.d.w, .int .i64 v.d.b], .bool cn])) 8 rfl rfl (hon 11 (by kernel_rfl)) rfl
              replace ha := Aside0.mk ha
              have HB := Aside0.mk Q_HB
              have HR := Aside0.mk Q_HR
              have HT := Aside0.mk Q_HT
              have BX := Aside0.mk Q_BX
              refine value_ (w1 := w') (v := .bool cn) (by rfl) rfl ?_ ?_
              · go_simp
                (try simp only [i64_w])
                try rfl
              refine hK.out _ _ ⟨gt_, m14_, (by rw [ha.out]; exact putSel_upk 10 hb_ rfl rfl rfl), Q_HB, Q_HR, Q_HT, Q_BX, Q_Z0, Q_BT, Q_X14_⟩
            refine steps_cons ?_ ?_
            · rintro b a w' ⟨gt_, m14_, ha, Q_HB, Q_HR, Q_HT, Q_BX, Q_Z0, Q_BT, Q_X14_⟩ hb_ hon hoff
              refine ⟨_, rfl, fun K hK => ?_⟩
              replace ha := Aside0.mk ha
              have HB := Aside0.mk Q_HB
              have HR := Aside0.mk Q_HR
              have HT := Aside0.mk Q_HT
              have BX := Aside0.mk Q_BX
              refine value_ (w1 := ?_) (v := ?_) (by rfl) rfl ?_ ?_
              rotate_left 2
              · go_simp
                constructor
                · rfl
                · rfl
              refine hK.out _ _ ⟨w'.heap.size, (.pointer (some ⟨w'.heap.size, 0, none⟩)), (by rw [ha.out]; exact putSel_upk 11 hb_ rfl rfl rfl), kp_alloc HB.out _, Kd.R_below HR.out ((Below.refl _ w').alloc (Nat.le_refl _) _), blk_alloc HT.out _, blk_alloc BX.out _, fun _ _ => ⟨blk_new _ _, HB.out.size, Nat.ne_of_gt (blk_lt HT.out), Nat.ne_of_gt (Kd.R_lt HR.out bS rfl), Nat.ne_of_gt (blk_lt BX.out)⟩, fun h0_ => absurd ((hoff 15 (by kernel_rfl)).symm.trans h0_) (by decide), fun _ => rfl⟩
            refine steps_cons ?_ ?_
            · rintro b a w' ⟨gt_, m14_, ha, Q_HB, Q_HR, Q_HT, Q_BX, Q_Z0, Q_BT, Q_X14_⟩ hb_ hon hoff
              refine ⟨_, rfl, fun K hK => ?_⟩
              have e7 : a.tmps[7]? = some (m14_) := by rw [ha]; exact putSel_on (e := (14, 7, m14_)) 11 rfl rfl (hon 14 (by kernel_rfl)) rfl
              rw [Q_X14_ (hon 14 (by kernel_rfl))] at e7
              have e58 : a.tmps[58]? = some (.agg #[.int .i64 v.x, .int .i64 v.y, .int .i64 v.d.t, .int .i64 v.d.n, .int .i64 v.d.e, .int .i64 v.d.s, .int .i64 v.d.w, .int .i64 v.d.b]) := by rw [ha]; exact putSel_on (e := (12, 58, .agg #[.int .i64 v.x, .int .i64 v.y, .int .i64 v.d.t, .int .i64 v.d.n, .int .i64 v.d.e, .int .i64 v.d.s, .int .i64 v.d.w, .int .i64 v.d.b])) 9 rfl rfl (hon 12 (by kernel_rfl)) rfl
              replace ha := Aside0.mk ha
              have HB := Aside0.mk Q_HB
              have HR := Aside0.mk Q_HR
              have HT := Aside0.mk Q_HT
              have BX := Aside0.mk Q_BX
              have Z0 := Aside0.mk (Q_Z0 (hon 14 (by kernel_rfl)) hb_)
              have z0 : w'.cell? ⟨gt_, 0, none⟩ = some (.int .i64 0) := blk_cell Z0.out.1 0
              have z1 : w'.cell? ⟨gt_, 1, none⟩ = some (.int .i64 0) := blk_cell Z0.out.1 1
              have z2 : w'.cell? ⟨gt_, 2, none⟩ = some (.int .i64 0) := blk_cell Z0.out.1 2
              have z3 : w'.cell? ⟨gt_, 3, none⟩ = some (.int .i64 0) := blk_cell Z0.out.1 3
              have z4 : w'.cell? ⟨gt_, 4, none⟩ = some (.int .i64 0) := blk_cell Z0.out.1 4
              have z5 : w'.cell? ⟨gt_, 5, none⟩ = some (.int .i64 0) := blk_cell Z0.out.1 5
              have z6 : w'.cell? ⟨gt_, 6, none⟩ = some (.int .i64 0) := blk_cell Z0.out.1 6
              have z7 : w'.cell? ⟨gt_, 7, none⟩ = some (.int .i64 0) := blk_cell Z0.out.1 7
              have zf0 := blk_frozen Z0.out.1 0
              have zf1 := blk_frozen Z0.out.1 1
              have zf2 := blk_frozen Z0.out.1 2
              have zf3 := blk_frozen Z0.out.1 3
              have zf4 := blk_frozen Z0.out.1 4
              have zf5 := blk_frozen Z0.out.1 5
              have zf6 := blk_frozen Z0.out.1 6
              have zf7 := blk_frozen Z0.out.1 7
              have hz2_ := Z0.out.2
              refine skip_ (w1 := ?_) (by rfl) rfl ?_ ?_
              rotate_left
              · go_simp
                rfl
              refine hK.out _ _ ⟨gt_, m14_, (by rw [ha.out]; exact putSel_none (v := undef) rfl), (kp_set (kp_set (kp_set (kp_set (kp_set (kp_set (kp_set (kp_set HB.out (.inl hz2_.1)) (.inl hz2_.1)) (.inl hz2_.1)) (.inl hz2_.1)) (.inl hz2_.1)) (.inl hz2_.1)) (.inl hz2_.1)) (.inl hz2_.1)), (rb_far (rb_far (rb_far (rb_far (rb_far (rb_far (rb_far (rb_far HR.out (Ne.symm hz2_.2.2.1) _) (Ne.symm hz2_.2.2.1) _) (Ne.symm hz2_.2.2.1) _) (Ne.symm hz2_.2.2.1) _) (Ne.symm hz2_.2.2.1) _) (Ne.symm hz2_.2.2.1) _) (Ne.symm hz2_.2.2.1) _) (Ne.symm hz2_.2.2.1) _), (blk_far (blk_far (blk_far (blk_far (blk_far (blk_far (blk_far (blk_far HT.out (Ne.symm hz2_.2.1) _) (Ne.symm hz2_.2.1) _) (Ne.symm hz2_.2.1) _) (Ne.symm hz2_.2.1) _) (Ne.symm hz2_.2.1) _) (Ne.symm hz2_.2.1) _) (Ne.symm hz2_.2.1) _) (Ne.symm hz2_.2.1) _), (blk_far (blk_far (blk_far (blk_far (blk_far (blk_far (blk_far (blk_far BX.out (Ne.symm hz2_.2.2.2) _) (Ne.symm hz2_.2.2.2) _) (Ne.symm hz2_.2.2.2) _) (Ne.symm hz2_.2.2.2) _) (Ne.symm hz2_.2.2.2) _) (Ne.symm hz2_.2.2.2) _) (Ne.symm hz2_.2.2.2) _) (Ne.symm hz2_.2.2.2) _), fun _ h1_ => absurd ((up_self b 15).symm.trans h1_) (by decide), fun _ => ⟨(blk_put (cs := #[.int .i64 v.x, .int .i64 v.y, .int .i64 v.d.t, .int .i64 v.d.n, .int .i64 v.d.e, .int .i64 v.d.s, .int .i64 v.d.w, .int .i64 0]) (blk_put (cs := #[.int .i64 v.x, .int .i64 v.y, .int .i64 v.d.t, .int .i64 v.d.n, .int .i64 v.d.e, .int .i64 v.d.s, .int .i64 0, .int .i64 0]) (blk_put (cs := #[.int .i64 v.x, .int .i64 v.y, .int .i64 v.d.t, .int .i64 v.d.n, .int .i64 v.d.e, .int .i64 0, .int .i64 0, .int .i64 0]) (blk_put (cs := #[.int .i64 v.x, .int .i64 v.y, .int .i64 v.d.t, .int .i64 v.d.n, .int .i64 0, .int .i64 0, .int .i64 0, .int .i64 0]) (blk_put (cs := #[.int .i64 v.x, .int .i64 v.y, .int .i64 v.d.t, .int .i64 0, .int .i64 0, .int .i64 0, .int .i64 0, .int .i64 0]) (blk_put (cs := #[.int .i64 v.x, .int .i64 v.y, .int .i64 0, .int .i64 0, .int .i64 0, .int .i64 0, .int .i64 0, .int .i64 0]) (blk_put (cs := #[.int .i64 v.x, .int .i64 0, .int .i64 0, .int .i64 0, .int .i64 0, .int .i64 0, .int .i64 0, .int .i64 0]) (blk_put (cs := #[.int .i64 0, .int .i64 0, .int .i64 0, .int .i64 0, .int .i64 0, .int .i64 0, .int .i64 0, .int .i64 0]) Z0.out.1 0 _ rfl) 1 _ rfl) 2 _ rfl) 3 _ rfl) 4 _ rfl) 5 _ rfl) 6 _ rfl) 7 _ rfl), hz2_⟩, Q_X14_⟩
            refine steps_cons ?_ ?_
            · rintro b a w' ⟨gt_, m14_, ha, Q_HB, Q_HR, Q_HT, Q_BX, Q_Z0, Q_BT, Q_X14_⟩ hb_ hon hoff
              refine ⟨_, rfl, fun K hK => ?_⟩
              have e59 : a.tmps[59]? = some (.bool cn) := by rw [ha]; exact putSel_on (e := (13, 59, .bool cn)) 10 rfl rfl (hon 13 (by kernel_rfl)) rfl
              replace ha := Aside0.mk ha
              have HB := Aside0.mk Q_HB
              have HR := Aside0.mk Q_HR
              have HT := Aside0.mk Q_HT
              have BX := Aside0.mk Q_BX
              have BT := Aside0.mk (Q_BT (hon 15 (by kernel_rfl)))
              refine value_ (w1 := w') (v := .bool cn) (by rfl) rfl ?_ ?_
              · go_simp
                (try simp only [i64_w])
                try rfl
              refine hK.out _ _ ⟨gt_, m14_, (by rw [ha.out]; exact putSel_upk 12 hb_ rfl rfl rfl), Q_HB, Q_HR, Q_HT, Q_BX, fun _ h1_ => absurd ((hon 15 (by kernel_rfl)).symm.trans h1_) (by decide), Q_BT, Q_X14_⟩
            exact steps_nil
          · rintro b a w' hall ⟨gt_, m14_, ha, Q_HB, Q_HR, Q_HT, Q_BX, Q_Z0, Q_BT, Q_X14_⟩
            clear BX HB HR HT
            have hb1_ := hall 1 (by kernel_rfl)
            have hb2_ := hall 2 (by kernel_rfl)
            have hb3_ := hall 3 (by kernel_rfl)
            have hb5_ := hall 5 (by kernel_rfl)
            have hb6_ := hall 6 (by kernel_rfl)
            have hb7_ := hall 7 (by kernel_rfl)
            have hb8_ := hall 8 (by kernel_rfl)
            have hb10_ := hall 10 (by kernel_rfl)
            have hb11_ := hall 11 (by kernel_rfl)
            have hb12_ := hall 12 (by kernel_rfl)
            have hb13_ := hall 13 (by kernel_rfl)
            have hb14_ := hall 14 (by kernel_rfl)
            have hb15_ := hall 15 (by kernel_rfl)
            have hb16_ := hall 16 (by kernel_rfl)
            subst ha
            obtain rfl := Q_X14_ hb14_
            simp only [putSel, hb1_, hb2_, hb3_, hb5_, hb6_, hb7_, hb8_, hb10_, hb11_, hb12_, hb13_, hb14_, hb15_, hb16_, if_true, Act.put, List.setIfInBounds_toArray, List.set_cons_zero, List.set_cons_succ]
            have HB := Aside0.mk Q_HB
            clear Q_HB
            have HR := Aside0.mk Q_HR
            clear Q_HR
            have HT := Aside0.mk Q_HT
            clear Q_HT
            have BX := Aside0.mk Q_BX
            clear Q_BX
            clear Q_Z0
            have BT := Aside0.mk (Q_BT hb15_)
            clear Q_BT
            clear hall hb1_ hb2_ hb3_ hb5_ hb6_ hb7_ hb8_ hb10_ hb11_ hb12_ hb13_ hb14_ hb15_ hb16_
            cases cn with
            | false =>
              have HS0 := Go.Lib.hid (show sumTo F (ii + 1) = sumTo F ii by
                show sumTo F ii + F ii = _
                rw [HF.out, ← HV.out.2, if_neg (by simp), Nat.add_zero])
              go_wp2_with fail
              go_roundw
              case rel => exact ⟨ii + 1, by go_num, HI4.out, HB.out, HR.out, ⟨f, by rw [HS0.out, ← HKC.out]; exact HT.out⟩, BX.out⟩
              case measure => have := HI4.out; simp [intOf]; omega
            | true =>
              have HG := Go.Lib.hid (HGO.out s ii HGD.out HV.out.2.symm)
              rw [← HV.out.1] at HG
              have HVM := Go.Lib.hid HG.out.1
              have HGF := Go.Lib.hid (show GF v by rw [HVM.out]; exact HG.out.2.1)
              have HGL := Go.Lib.hid (show lab v = true → Gd v by rw [HVM.out]; exact HG.out.2.2)
              clear HG
              obtain ⟨hlt, hw_, hlv⟩ := HIX.out.2 v HGF.out
              obtain ⟨iv, hiv⟩ : ∃ iv, iv = ix v := ⟨_, rfl⟩
              rw [← hiv] at hlt hw_ hlv
              rw [i64_w, i64_w] at hw_
              have HIV := Go.Lib.hid hiv
              have HLV := Go.Lib.hid hlv
              have HLN := Go.Lib.hid hlt
              clear hiv hlv
              have b0_ : w'.cell? ⟨gt_, 0, none⟩ = some (.int .i64 v.x) := blk_cell BT.out.1 0
              have b1_ : w'.cell? ⟨gt_, 1, none⟩ = some (.int .i64 v.y) := blk_cell BT.out.1 1
              have l0_ : w'.cell? ⟨T, 0, none⟩ = some (.int .i64 gw) := blk_cell HT.out 0
              go_wp2_with fail
              go_quiet (fail)
              rw [hw_]
              have n_HB := Go.Lib.hid (kp_below0 HB.out (pw_below_drewN (Below.refl _ _) nq))
              have n_HR := Go.Lib.hid (Kd.R_below HR.out (pw_below_drewN (Below.refl _ _) nq))
              have n_HT := Go.Lib.hid (blk_drewN HT.out nq)
              have n_BX := Go.Lib.hid (blk_drewN BX.out nq)
              have n_BT := Go.Lib.hid (And.intro (blk_drewN BT.out.1 nq) BT.out.2)
              clear HB HR HT BX BT
              have HB := n_HB
              have HR := n_HR
              have HT := n_HT
              have BX := n_BX
              have BT := n_BT
              clear n_HB n_HR n_HT n_BX n_BT
              clear b0_ b1_ l0_ hw_
              generalize World.drewN _ _ = w10 at HB HR HT BX BT ⊢
              have hx0 : (0 : Int) ≤ (iv : Int) := by omega
              have hx1 : (iv : Int) < (N : Int) := by omega
              clear hlt
              have l3_ : w10.cell? ⟨T, 3, none⟩ = some (.slice (some ⟨bL, 0, none⟩) N cL) := blk_cell HT.out 3
              have l4_ : w10.cell? ⟨T, 4, none⟩ = some (.slice (some ⟨bS, 0, none⟩) N cS) := blk_cell HT.out 4
              have HW10 := Go.Lib.hid (kp_below HW5.out HB.out HTS.out.1 HTS.out.2.1)
              have lv_ : w10.cell? ⟨bL, iv, none⟩ = some (.int .u8 (lvl v)) := pw_cell_below HW10.out HLV.out
              obtain ⟨p1_, _⟩ := sc_cell HR.out iv _ (row_at sn HLN.out)
              obtain ⟨q, hq⟩ : ∃ q, q = sn iv := ⟨_, rfl⟩
              rw [← hq] at p1_
              have HQ := Go.Lib.hid (show q = isIn (cellOf v) seen by rw [hq, HIV.out]; exact HSN.out v HGF.out)
              have HQS := Go.Lib.hid hq
              clear hq
              cases q with
              | true =>
                have HS0 := Go.Lib.hid (show sumTo F (ii + 1) = sumTo F ii by
                  show sumTo F ii + F ii = _
                  rw [HF.out, ← HVM.out, ← HQ.out, if_neg (by simp), Nat.add_zero])
                go_wp2_with fail
                go_roundw
                case rel => exact ⟨ii + 1, by go_num, HI4.out, HB.out, HR.out, ⟨f, by rw [HS0.out, ← HKC.out]; exact HT.out⟩, BX.out⟩
                case measure => have := HI4.out; simp [intOf]; omega
              | false =>
                have HDG := Go.Lib.hid (HDIG.out v w10 HGF.out HW10.out)
                obtain ⟨lb, hlb⟩ : ∃ lb, lb = lab v := ⟨_, rfl⟩
                rw [← hlb] at HDG
                have HLB := Go.Lib.hid hlb
                clear hlb
                go_wp2_with fail
                refine HDG.out.mono ?_
                rintro e' w11 ⟨rfl, hb⟩
                have n_HB := Go.Lib.hid (kp_then HB.out hb)
                have n_HR := Go.Lib.hid (Kd.R_below HR.out hb)
                have n_HT := Go.Lib.hid (blk_below HT.out hb)
                have n_BX := Go.Lib.hid (blk_below BX.out hb)
                have n_BT := Go.Lib.hid (And.intro (blk_below BT.out.1 hb) BT.out.2)
                clear HB HR HT BX BT hb HW10 HDG l3_ l4_ lv_ p1_
                have HB := n_HB
                have HR := n_HR
                have HT := n_HT
                have BX := n_BX
                have BT := n_BT
                clear n_HB n_HR n_HT n_BX n_BT
                cases lb with
                | false =>
                  have HS0 := Go.Lib.hid (show sumTo F (ii + 1) = sumTo F ii by
                    show sumTo F ii + F ii = _
                    rw [HF.out, ← HVM.out, ← HLB.out, if_neg (by simp), Nat.add_zero])
                  go_wp2_with fail
                  go_roundw
                  case rel => exact ⟨ii + 1, by go_num, HI4.out, HB.out, HR.out, ⟨f, by rw [HS0.out, ← HKC.out]; exact HT.out⟩, BX.out⟩
                  case measure => have := HI4.out; simp [intOf]; omega
                | true =>
                  obtain ⟨ac, hac⟩ : ∃ ac, ac = B can moved lab cellOf m v (seen ++ [cellOf v]) := ⟨_, rfl⟩
                  have HS0 := Go.Lib.hid (show sumTo F (ii + 1) = sumTo F ii + ac by
                    show sumTo F ii + F ii = _
                    rw [HF.out, ← HVM.out, ← HLB.out, ← HQ.out, ← HV.out.2, if_pos (by rfl), hac])
                  have HREC := Go.Lib.hid (fun W' (hW' : Kp T bS W W') (hR' : RB w5.heap.size W' bS N cS (RowB.put sn iv true)) (hT' : W'.heap[T]? = some (.cells (t9 gw gh Vc (.slice (some ⟨bL, 0, none⟩) N cL) bS N cS (m : Int) f kc) 40 (0, 0))) => HIH.out m (Nat.lt_succ_self m) v (seen ++ [cellOf v]) (RowB.put sn iv true) (word ++ letter ii) f kc W' (by have := HN.out; omega) (HGL.out HLB.out.symm) (kp_below HW5.out hW' HTS.out.1 HTS.out.2.1) (by rw [HIV.out]; exact sn_put HIX.out.1 HSN.out HGF.out) hR' hT' HKL.out (by rw [ByteArray.size_append, letter_size]; have := HSZ.out; omega))
                  rw [← hac] at HREC
                  clear hac HMV
                  have l4_ : w11.cell? ⟨T, 4, none⟩ = some (.slice (some ⟨bS, 0, none⟩) N cS) := blk_cell HT.out 4
                  obtain ⟨p1_, p2_⟩ := sc_cell HR.out iv _ (row_at sn HLN.out)
                  go_upto_region 13 with fail
                  have n_HB := Go.Lib.hid (kp_setM (j := iv) (v := .bool true) HB.out)
                  have n_HR := Go.Lib.hid ((rb_put HR.out iv true).1)
                  have n_HT := Go.Lib.hid (blk_far (p := ⟨bS, iv, none⟩) HT.out HTS.out.2.2 (.bool true))
                  have n_BX := Go.Lib.hid (blk_far (p := ⟨bS, iv, none⟩) BX.out (by have h_ := HLT.out.2; have h2_ := HSB.out; show sB ≠ bS; omega) (.bool true))
                  have n_BT := Go.Lib.hid (And.intro (blk_far (p := ⟨bS, iv, none⟩) BT.out.1 BT.out.2.2.2.1 (.bool true)) BT.out.2)
                  clear HB HR HT BX BT
                  have HB := n_HB
                  have HR := n_HR
                  have HT := n_HT
                  have BX := n_BX
                  have BT := n_BT
                  clear n_HB n_HR n_HT n_BX n_BT
                  clear l4_ p1_ p2_
                  generalize World.setCell _ _ _ = w12 at HB HR HT BX BT ⊢
                  have l5_ : w12.cell? ⟨T, 5, none⟩ = some (.int .i64 lf) := blk_cell HT.out 5
                  have f5_ := blk_frozen HT.out 5
                  have hw_ : IntKind.i64.wrap (lf - 1) = (m : Int) := by have h_ := HLF.out; have h2_ := HN.out; rw [IntWalk.i64_in _ (by omega)]; omega
                  go_upto_region 14 with fail
                  have n_HB := Go.Lib.hid (kp_set (j := 5) (v := .int .i64 (m : Int)) HB.out (.inr rfl))
                  have n_HR := Go.Lib.hid (rb_far (p := ⟨T, 5, none⟩) HR.out (fun h_ => HTS.out.2.2 h_.symm) (.int .i64 (m : Int)))
                  have n_HT := Go.Lib.hid (blk_put (cs := t9 gw gh Vc (.slice (some ⟨bL, 0, none⟩) N cL) bS N cS lf f kc) (cs' := t9 gw gh Vc (.slice (some ⟨bL, 0, none⟩) N cL) bS N cS (m : Int) f kc) HT.out 5 (.int .i64 (m : Int)) rfl)
                  have n_BX := Go.Lib.hid (blk_far (p := ⟨T, 5, none⟩) BX.out (by have h_ := HLT.out.1; have h2_ := HSB.out; show sB ≠ T; omega) (.int .i64 (m : Int)))
                  have n_BT := Go.Lib.hid (And.intro (blk_far (p := ⟨T, 5, none⟩) BT.out.1 BT.out.2.2.1 (.int .i64 (m : Int))) BT.out.2)
                  clear HB HR HT BX BT
                  have HB := n_HB
                  have HR := n_HR
                  have HT := n_HT
                  have BX := n_BX
                  have BT := n_BT
                  clear n_HB n_HR n_HT n_BX n_BT
                  clear l5_ f5_ hw_
                  generalize World.setCell _ _ _ = w13 at HB HR HT BX BT ⊢
                  refine start_ (n := 10) (S := fun w' => True) (ds := []) #[false, false, false, false, false, false, false, false, false, false] (by kernel_rfl) rfl rfl trivial (fun hHeld => ?_)
                  refine with_tabW lks.tab14 lks.bits14 (fun HT_ HW_ => ?_)
                  have n_HB := Go.Lib.hid (kp_drew HB.out)
                  have n_HR := Go.Lib.hid (Kd.R_below HR.out (below_drew (Below.refl _ _)))
                  have n_HT := Go.Lib.hid (blk_drew HT.out)
                  have n_BX := Go.Lib.hid (blk_drew BX.out)
                  have n_BT := Go.Lib.hid (And.intro (blk_drew BT.out.1) BT.out.2)
                  clear HB HR HT BX BT
                  have HB := n_HB
                  have HR := n_HR
                  have HT := n_HT
                  have BX := n_BX
                  have BT := n_BT
                  clear n_HB n_HR n_HT n_BX n_BT
                  generalize World.drew _ = w14 at HB HR HT BX BT hHeld ⊢
                  refine pure_ (i := 0) (N := some 104) (v := ?_) (a' := ?_) #[true, false, false, false, false, false, false, false, false, false] rfl rfl (any_of HT_.out (by kernel_rfl)) (fun _ _ _ h => h) (Or.inl ⟨by rfl, ?_⟩) ?_ ?_
                  rotate_left
                  · intro w'
                    go_simp
                    with_reducible rfl
                  rotate_left
                  · simp only [Act.put, List.setIfInBounds_toArray, List.set_cons_zero, List.set_cons_succ, i64_w, i32_w]
                    rfl
                  refine pure_ (i := 2) (N := some 106) (v := ?_) (a' := ?_) #[true, false, true, false, false, false, false, false, false, false] rfl rfl (any_of HT_.out (by kernel_rfl)) (fun _ _ _ h => h) (Or.inl ⟨by rfl, ?_⟩) ?_ ?_
                  rotate_left
                  · intro w'
                    go_simp
                    with_reducible rfl
                  rotate_left
                  · simp only [Act.put, List.setIfInBounds_toArray, List.set_cons_zero, List.set_cons_succ, i64_w, i32_w]
                    rfl
                  refine pure_ (i := 4) (N := some 108) (v := ?_) (a' := ?_) #[true, false, true, false, true, false, false, false, false, false] rfl rfl (any_of HT_.out (by kernel_rfl)) (fun _ _ _ h => h) (Or.inl ⟨by rfl, ?_⟩) ?_ ?_
                  rotate_left
                  · intro w'
                    go_simp
                    with_reducible rfl
                  rotate_left
                  · simp only [Act.put, List.setIfInBounds_toArray, List.set_cons_zero, List.set_cons_succ, i64_w, i32_w]
                    rfl
                  refine pure_ (i := 5) (N := some 109) (v := ?_) (a' := ?_) #[true, false, true, false, true, true, false, false, false, false] rfl rfl (any_of HT_.out (by kernel_rfl)) (fun _ _ _ h => h) (Or.inl ⟨by rfl, ?_⟩) ?_ ?_
                  rotate_left
                  · intro w'
                    go_simp
                    with_reducible rfl
                  rotate_left
                  · simp only [Act.put, List.setIfInBounds_toArray, List.set_cons_zero, List.set_cons_succ, i64_w, i32_w]
                    rfl
                  refine inv_at [1, 3, 6, 7, 8, 9] (fun a0_ b a w' => a = putSel a0_ b [(1, 105, .agg #[.int .i64 v.x, .int .i64 v.y, .int .i64 v.d.t, .int .i64 v.d.n, .int .i64 v.d.e, .int .i64 v.d.s, .int .i64 v.d.w, .int .i64 v.d.b]), (3, 107, .string ⟨#[110, 101, 115, 119]⟩), (6, 110, .int .i64 ((ii : Int) + 1)), (7, 111, .string (letter ii)), (8, 112, .string (word ++ letter ii)), (9, 113, .tuple #[])] ∧ (Kp T bS W w') ∧ (RB w5.heap.size w' bS N cS (RowB.put sn iv true)) ∧ (w'.heap[sB]? = some (.cells (st8 s) 30 (0, 0))) ∧ (w'.heap[gt_]? = some (.cells (st8 v) 30 (0, 0)) ∧ W.heap.size ≤ gt_ ∧ gt_ ≠ T ∧ gt_ ≠ bS ∧ gt_ ≠ sB) ∧ (b 9 = false → w'.heap[T]? = some (.cells (t9 gw gh Vc (.slice (some ⟨bL, 0, none⟩) N cL) bS N cS (m : Int) f kc) 40 (0, 0))) ∧ (b 9 = true → ∃ f_, w'.heap[T]? = some (.cells (t9 gw gh Vc (.slice (some ⟨bL, 0, none⟩) N cL) bS N cS (m : Int) f_ (kc + (ac : Int))) 40 (0, 0)))) HT_.out HW_.out (by kernel_rfl) (by kernel_rfl) ?_ ?_ ?_
                  · exact ⟨by simp only [putSel, Bool.false_eq_true, if_false], HB.out, HR.out, BX.out, BT.out, fun _ => HT.out, fun h_ => absurd h_ (by decide)⟩
                  · skip
                    clear BT BX HB HR HT
                    refine steps_cons ?_ ?_
                    · rintro b a w' ⟨ha, Q_HB, Q_HR, Q_BX, Q_BT, Q_HT, Q_CD⟩ hb_ hon hoff
                      refine ⟨_, rfl, fun K hK => ?_⟩
                      have e7 : a.tmps[7]? = some (.pointer (some ⟨gt_, 0, none⟩)) := by rw [ha]; exact (putSel_off rfl).trans rfl
                      replace ha := Aside0.mk ha
                      have HB := Aside0.mk Q_HB
                      have HR := Aside0.mk Q_HR
                      have BX := Aside0.mk Q_BX
                      have BT := Aside0.mk Q_BT
                      have HT := Aside0.mk (Q_HT (hoff 9 (by kernel_rfl)))
                      have o0 : w'.cell? ⟨gt_, 0, none⟩ = some (.int .i64 v.x) := blk_cell BT.out.1 0
                      have o1 : w'.cell? ⟨gt_, 1, none⟩ = some (.int .i64 v.y) := blk_cell BT.out.1 1
                      have o2 : w'.cell? ⟨gt_, 2, none⟩ = some (.int .i64 v.d.t) := blk_cell BT.out.1 2
                      have o3 : w'.cell? ⟨gt_, 3, none⟩ = some (.int .i64 v.d.n) := blk_cell BT.out.1 3
                      have o4 : w'.cell? ⟨gt_, 4, none⟩ = some (.int .i64 v.d.e) := blk_cell BT.out.1 4
                      have o5 : w'.cell? ⟨gt_, 5, none⟩ = some (.int .i64 v.d.s) := blk_cell BT.out.1 5
                      have o6 : w'.cell? ⟨gt_, 6, none⟩ = some (.int .i64 v.d.w) := blk_cell BT.out.1 6
                      have o7 : w'.cell? ⟨gt_, 7, none⟩ = some (.int .i64 v.d.b) := blk_cell BT.out.1 7
                      refine value_ (w1 := w') (v := .agg #[.int .i64 v.x, .int .i64 v.y, .int .i64 v.d.t, .int .i64 v.d.n, .int .i64 v.d.e, .int .i64 v.d.s, .int .i64 v.d.w, .int .i64 v.d.b]) (by rfl) rfl ?_ ?_
                      · go_simp
                        (try simp only [i64_w])
                        try rfl
                      refine hK.out _ _ ⟨(by rw [ha.out]; exact putSel_upk 0 hb_ rfl rfl rfl), Q_HB, Q_HR, Q_BX, Q_BT, Q_HT, fun h0_ => absurd ((hoff 9 (by kernel_rfl)).symm.trans h0_) (by decide)⟩
                    refine steps_cons ?_ ?_
                    · rintro b a w' ⟨ha, Q_HB, Q_HR, Q_BX, Q_BT, Q_HT, Q_CD⟩ hb_ hon hoff
                      refine ⟨_, rfl, fun K hK => ?_⟩
                      replace ha := Aside0.mk ha
                      have HB := Aside0.mk Q_HB
                      have HR := Aside0.mk Q_HR
                      have BX := Aside0.mk Q_BX
                      have BT := Aside0.mk Q_BT
                      have HT := Aside0.mk (Q_HT (hoff 9 (by kernel_rfl)))
                      refine call_ 24 #[] (by rfl) rfl ?_ ?_
                      · go_simp
                        (try rfl)
                      with_reducible refine (dirs_calls w').mono ?_
                      rintro e' w1 ⟨rfl, hb⟩
                      refine ⟨_, rfl, ?_⟩
                      refine hK.out _ _ ⟨(by rw [ha.out]; exact putSel_upk 1 hb_ rfl rfl rfl), kp_then HB.out hb, Kd.R_below HR.out hb, blk_below BX.out hb, ⟨blk_below BT.out.1 hb, BT.out.2⟩, fun _ => blk_below HT.out hb, fun h0_ => absurd ((hoff 9 (by kernel_rfl)).symm.trans h0_) (by decide)⟩
                    refine steps_cons ?_ ?_
                    · rintro b a w' ⟨ha, Q_HB, Q_HR, Q_BX, Q_BT, Q_HT, Q_CD⟩ hb_ hon hoff
                      refine ⟨_, rfl, fun K hK => ?_⟩
                      have e109 : a.tmps[109]? = some (.int .i64 (ii : Int)) := by rw [ha]; exact (putSel_off rfl).trans rfl
                      replace ha := Aside0.mk ha
                      have HB := Aside0.mk Q_HB
                      have HR := Aside0.mk Q_HR
                      have BX := Aside0.mk Q_BX
                      have BT := Aside0.mk Q_BT
                      have HT := Aside0.mk (Q_HT (hoff 9 (by kernel_rfl)))
                      have hw_ : IntKind.i64.wrap ((ii : Int) + 1) = (ii : Int) + 1 := IntWalk.i64_in _ (by have h_ := HI4.out; omega)
                      refine value_ (w1 := w') (v := .int .i64 ((ii : Int) + 1)) (by rfl) rfl ?_ ?_
                      · go_simp
                        (try simp only [i64_w])
                        try rfl
                      refine hK.out _ _ ⟨(by rw [ha.out]; exact putSel_upk 2 hb_ rfl rfl rfl), Q_HB, Q_HR, Q_BX, Q_BT, Q_HT, fun h0_ => absurd ((hoff 9 (by kernel_rfl)).symm.trans h0_) (by decide)⟩
                    refine steps_cons ?_ ?_
                    · rintro b a w' ⟨ha, Q_HB, Q_HR, Q_BX, Q_BT, Q_HT, Q_CD⟩ hb_ hon hoff
                      refine ⟨_, rfl, fun K hK => ?_⟩
                      have e107 : a.tmps[107]? = some (.string ⟨#[110, 101, 115, 119]⟩) := by rw [ha]; exact putSel_on (e := (3, 107, .string ⟨#[110, 101, 115, 119]⟩)) 1 rfl rfl (hon 3 (by kernel_rfl)) rfl
                      have e108 : a.tmps[108]? = some (.int .i64 (ii : Int)) := by rw [ha]; exact (putSel_off rfl).trans rfl
                      have e110 : a.tmps[110]? = some (.int .i64 ((ii : Int) + 1)) := by rw [ha]; exact putSel_on (e := (6, 110, .int .i64 ((ii : Int) + 1))) 2 rfl rfl (hon 6 (by kernel_rfl)) rfl
                      replace ha := Aside0.mk ha
                      have HB := Aside0.mk Q_HB
                      have HR := Aside0.mk Q_HR
                      have BX := Aside0.mk Q_BX
                      have BT := Aside0.mk Q_BT
                      have HT := Aside0.mk (Q_HT (hoff 9 (by kernel_rfl)))
                      have hsl_ := slice_dir ii HI4.out w'
                      refine value_ (w1 := w') (v := .string (letter ii)) (by rfl) rfl ?_ ?_
                      · go_simp
                        (try simp only [i64_w])
                        try rfl
                      refine hK.out _ _ ⟨(by rw [ha.out]; exact putSel_upk 3 hb_ rfl rfl rfl), Q_HB, Q_HR, Q_BX, Q_BT, Q_HT, fun h0_ => absurd ((hoff 9 (by kernel_rfl)).symm.trans h0_) (by decide)⟩
                    refine steps_cons ?_ ?_
                    · rintro b a w' ⟨ha, Q_HB, Q_HR, Q_BX, Q_BT, Q_HT, Q_CD⟩ hb_ hon hoff
                      refine ⟨_, rfl, fun K hK => ?_⟩
                      have e106 : a.tmps[106]? = some (.string word) := by rw [ha]; exact (putSel_off rfl).trans rfl
                      have e111 : a.tmps[111]? = some (.string (letter ii)) := by rw [ha]; exact putSel_on (e := (7, 111, .string (letter ii))) 3 rfl rfl (hon 7 (by kernel_rfl)) rfl
                      replace ha := Aside0.mk ha
                      have HB := Aside0.mk Q_HB
                      have HR := Aside0.mk Q_HR
                      have BX := Aside0.mk Q_BX
                      have BT := Aside0.mk Q_BT
                      have HT := Aside0.mk (Q_HT (hoff 9 (by kernel_rfl)))
                      have hsz_ : word.size + (letter ii).size ≤ 9223372036854775807 := by rw [letter_size]; have h_ := HSZ.out; omega
                      refine value_ (w1 := w') (v := .string (word ++ letter ii)) (by rfl) rfl ?_ ?_
                      · go_simp
                        (try simp only [i64_w])
                        try rfl
                      refine hK.out _ _ ⟨(by rw [ha.out]; exact putSel_upk 4 hb_ rfl rfl rfl), Q_HB, Q_HR, Q_BX, Q_BT, Q_HT, fun h0_ => absurd ((hoff 9 (by kernel_rfl)).symm.trans h0_) (by decide)⟩
                    refine steps_cons ?_ ?_
                    · rintro b a w' ⟨ha, Q_HB, Q_HR, Q_BX, Q_BT, Q_HT, Q_CD⟩ hb_ hon hoff
                      refine ⟨_, rfl, fun K hK => ?_⟩
                      have e104 : a.tmps[104]? = some (.pointer (some ⟨T, 0, none⟩)) := by rw [ha]; exact (putSel_off rfl).trans rfl
                      have e105 : a.tmps[105]? = some (.agg #[.int .i64 v.x, .int .i64 v.y, .int .i64 v.d.t, .int .i64 v.d.n, .int .i64 v.d.e, .int .i64 v.d.s, .int .i64 v.d.w, .int .i64 v.d.b]) := by rw [ha]; exact putSel_on (e := (1, 105, .agg #[.int .i64 v.x, .int .i64 v.y, .int .i64 v.d.t, .int .i64 v.d.n, .int .i64 v.d.e, .int .i64 v.d.s, .int .i64 v.d.w, .int .i64 v.d.b])) 0 rfl rfl (hon 1 (by kernel_rfl)) rfl
                      have e112 : a.tmps[112]? = some (.string (word ++ letter ii)) := by rw [ha]; exact putSel_on (e := (8, 112, .string (word ++ letter ii))) 4 rfl rfl (hon 8 (by kernel_rfl)) rfl
                      replace ha := Aside0.mk ha
                      have HB := Aside0.mk Q_HB
                      have HR := Aside0.mk Q_HR
                      have BX := Aside0.mk Q_BX
                      have BT := Aside0.mk Q_BT
                      have HT := Aside0.mk (Q_HT hb_)
                      refine call_ 17 #[.pointer (some ⟨T, 0, none⟩), .agg #[.int .i64 v.x, .int .i64 v.y, .int .i64 v.d.t, .int .i64 v.d.n, .int .i64 v.d.e, .int .i64 v.d.s, .int .i64 v.d.w, .int .i64 v.d.b], .string (word ++ letter ii)] (by rfl) rfl ?_ ?_
                      · go_simp
                        (try rfl)
                      with_reducible refine (HREC.out w' HB.out HR.out HT.out).mono ?_
                      rintro e' w1 ⟨f_, rfl, hkp, hrb, hcc⟩
                      refine ⟨_, rfl, ?_⟩
                      refine hK.out _ _ ⟨(by rw [ha.out]; exact putSel_upk 5 hb_ rfl rfl rfl), kp_trans HB.out hkp, hrb, kp_blk BX.out hkp (by have h_ := HLT.out.1; have h2_ := HSB.out; omega) (by have h_ := HLT.out.2; have h2_ := HSB.out; omega), ⟨kp_blk BT.out.1 hkp BT.out.2.2.1 BT.out.2.2.2.1, BT.out.2⟩, fun h0_ => absurd ((up_self b 9).symm.trans h0_) (by decide), fun _ => ⟨f_, hcc⟩⟩
                    exact steps_nil
                  · rintro b a w' hall ⟨ha, Q_HB, Q_HR, Q_BX, Q_BT, Q_HT, Q_CD⟩
                    clear BT BX HB HR HT
                    have hb1_ := hall 1 (by kernel_rfl)
                    have hb3_ := hall 3 (by kernel_rfl)
                    have hb6_ := hall 6 (by kernel_rfl)
                    have hb7_ := hall 7 (by kernel_rfl)
                    have hb8_ := hall 8 (by kernel_rfl)
                    have hb9_ := hall 9 (by kernel_rfl)
                    subst ha
                    simp only [putSel, hb1_, hb3_, hb6_, hb7_, hb8_, hb9_, if_true, Act.put, List.setIfInBounds_toArray, List.set_cons_zero, List.set_cons_succ]
                    have HB := Aside0.mk Q_HB
                    clear Q_HB
                    have HR := Aside0.mk Q_HR
                    clear Q_HR
                    have BX := Aside0.mk Q_BX
                    clear Q_BX
                    have BT := Aside0.mk Q_BT
                    clear Q_BT
                    clear Q_HT
                    have CD := Aside0.mk (Q_CD hb9_)
                    clear Q_CD
                    clear hall hb1_ hb3_ hb6_ hb7_ hb8_ hb9_
                    obtain ⟨f2, hT2⟩ := CD.out
                    have HT := Go.Lib.hid hT2
                    clear hT2 CD
                    have l4_ : w'.cell? ⟨T, 4, none⟩ = some (.slice (some ⟨bS, 0, none⟩) N cS) := blk_cell HT.out 4
                    obtain ⟨p1_, p2_⟩ := sc_cell HR.out iv _ (row_at (RowB.put sn iv true) HLN.out)
                    go_upto_region 16 with fail
                    have n_HB := Go.Lib.hid (kp_setM (j := iv) (v := .bool false) HB.out)
                    have n_HR := Go.Lib.hid ((rb_put HR.out iv false).1)
                    have n_HT := Go.Lib.hid (blk_far (p := ⟨bS, iv, none⟩) HT.out HTS.out.2.2 (.bool false))
                    have n_BX := Go.Lib.hid (blk_far (p := ⟨bS, iv, none⟩) BX.out (by have h_ := HLT.out.2; have h2_ := HSB.out; show sB ≠ bS; omega) (.bool false))
                    have n_BT := Go.Lib.hid (And.intro (blk_far (p := ⟨bS, iv, none⟩) BT.out.1 BT.out.2.2.2.1 (.bool false)) BT.out.2)
                    clear HB HR HT BX BT
                    have HB := n_HB
                    have HR := n_HR
                    have HT := n_HT
                    have BX := n_BX
                    have BT := n_BT
                    clear n_HB n_HR n_HT n_BX n_BT
                    rw [put_back HQS.out.symm] at HR
                    clear l4_ p1_ p2_
                    generalize World.setCell _ _ _ = w15 at HB HR HT BX BT ⊢
                    have l5_ : w15.cell? ⟨T, 5, none⟩ = some (.int .i64 (m : Int)) := blk_cell HT.out 5
                    have f5_ := blk_frozen HT.out 5
                    have hw_ : IntKind.i64.wrap ((m : Int) + 1) = lf := by have h_ := HLF.out; have h2_ := HN.out; rw [IntWalk.i64_in _ (by omega)]; omega
                    go_wp2_with fail
                    go_roundw
                    case rel => exact ⟨ii + 1, by go_num, HI4.out, kp_set HB.out (.inr rfl), rb_far HR.out (fun h_ => HTS.out.2.2 h_.symm) _, ⟨f2, by rw [HS0.out, Int.natCast_add, ← Int.add_assoc, ← HKC.out]; exact blk_put HT.out 5 _ rfl⟩, blk_far BX.out (by have h_ := HLT.out.1; have h2_ := HSB.out; show sB ≠ T; omega) _⟩
                    case measure => have := HI4.out; simp [intOf]; omega
        · obtain rfl : ii = 4 := by omega
          have l7_ : wr.cell? ⟨T, 7, none⟩ = some (.int .i64 kc) := blk_cell HT.out 7
          have l8_ : wr.cell? ⟨T, 8, none⟩ = some (.int .i64 1073741824) := blk_cell HT.out 8
          clear h4 hi
          go_upto_region 6 with fail
          go_quiet (fail)
          have n_HB := Go.Lib.hid (kp_below0 HB.out (pw_below_drewN (Below.refl _ _) nq))
          have n_HR := Go.Lib.hid (Kd.R_below HR.out (pw_below_drewN (Below.refl _ _) nq))
          have n_HT := Go.Lib.hid (blk_drewN HT.out nq)
          have n_BX := Go.Lib.hid (blk_drewN BX.out nq)
          clear HB HR HT BX
          have HB := n_HB
          have HR := n_HR
          have HT := n_HT
          have BX := n_BX
          clear n_HB n_HR n_HT n_BX
          clear l7_ l8_
          generalize World.drewN _ _ = w6 at HB HR HT BX ⊢
          go_wp2_with fail
          first | go_end0 | (simp only [Exit.inBlock, Exit.then]; refine bodyPost_ret (results_none rfl _ _ _) rfl ?_) | refine bodyPost_ret (results_none rfl _ _ _) rfl ?_
          refine ⟨f, rfl, HB.out, HR.out, ?_⟩
          rw [HZ.out, ← HKC.out]
          exact HT.out
end Go.Proofs.YtolopkjpodnmkaaDoor.LookS
