/- The reference's diWays of the common die: twenty-four dice. Conditions: none. -/
import Derived.Test.YtfcifidjjbknaaaDoorDiS
import Derived.Test.YtfcifidjjbknaaaDoorDiF
namespace Go.Proofs.YtfcifidjjbknaaaDoor.DiW
open Go.RowKit Go.Proofs.YtfcifidjjbknaaaDoor.QDs Go.Proofs.YtfcifidjjbknaaaDoorW.PrintWords Go.Proofs.YtfcifidjjbknaaaDoorW.PrintLast Go.Proofs.YtfcifidjjbknaaaDoor.DiF
set_option linter.unusedVariables false
set_option linter.unusedSimpArgs false

abbrev TD : Nat := 25
theorem elem {w : World} {b n : Nat} {xs : List S25} (h : Kd.C k25 w (some ⟨b, 0, none⟩) n xs) {i : Nat} (hi : i < n) : ∃ x0 x1 x2 x3 x4 x5 : Int, w.cell? ⟨b, i * 6, none⟩ = some (.int .i64 x0) ∧ w.cell? ⟨b, i * 6 + 1, none⟩ = some (.int .i64 x1) ∧ w.cell? ⟨b, i * 6 + 2, none⟩ = some (.int .i64 x2) ∧ w.cell? ⟨b, i * 6 + 3, none⟩ = some (.int .i64 x3) ∧ w.cell? ⟨b, i * 6 + 4, none⟩ = some (.int .i64 x4) ∧ w.cell? ⟨b, i * 6 + 5, none⟩ = some (.int .i64 x5) := by
  obtain ⟨ad, e, h0, h1, h2, h3, h4, h5⟩ := at_T25 h (i : Int) (by omega) (by omega)
  injection e with e
  subst e
  rw [Int.toNat_natCast, add_plain] at h0 h1 h2 h3 h4 h5
  simp only [Nat.zero_add] at h0 h1 h2 h3 h4 h5
  exact ⟨_, _, _, _, _, _, h0, h1, h2, h3, h4, h5⟩
def Row (w : World) (base n : Nat) (v : Value) : Prop := ∃ xs : List S25, xs.length = n ∧ Kd.R k25 25 w base (fun _ => True) v xs
theorem Row.below {w w1 : World} {base n : Nat} {v : Value} (h : Row w base n v) (hb : Below w.heap.size w w1) : Row w1 base n v := by
  obtain ⟨xs, hl, hr⟩ := h
  exact ⟨xs, hl, Kd.R_below hr hb⟩
theorem Row.lt {w : World} {base n : Nat} {v : Value} (h : Row w base n v) {k : Nat} (hk : v.ownBlock = some k) : k < w.heap.size := by
  obtain ⟨xs, hl, hr⟩ := h
  exact Kd.R_lt hr k hk
theorem take_C {w : World} {A : Option Addr} {xs : List S25} (h : Kd.C k25 w A xs.length xs) {k : Nat} (hk : k ≤ xs.length) : Kd.C k25 w A k (xs.take k) := by
  have h2 := Kd.C_take h hk
  have e : (xs.take k).length = k := by rw [List.length_take]; omega
  rwa [e] at h2
theorem lit_C {w : World} {g : Nat} {x0 x1 x2 x3 x4 x5 : Int} (hb : w.heap[g]? = some (.cells (six x0 x1 x2 x3 x4 x5) 25 (0, 0))) : Kd.C k25 w (some ⟨g, 0, none⟩) 1 [(⟨x0, x1, x2, x3, x4, x5⟩ : S25)] := by
  refine ⟨rfl, by decide, fun _ => ⟨⟨g, 0, none⟩, rfl, fun j p hj => ?_⟩⟩
  rcases j with _ | j
  · obtain rfl : (⟨x0, x1, x2, x3, x4, x5⟩ : S25) = p := by simpa using hj
    refine ⟨[.int .i64 x0, .int .i64 x1, .int .i64 x2, .int .i64 x3, .int .i64 x4, .int .i64 x5], rfl, k25_mk w ⟨x0, x1, x2, x3, x4, x5⟩, fun i u hu => ?_⟩
    rw [add_plain]
    simp only [Nat.zero_mul, Nat.zero_add]
    rcases i with _ | _ | _ | _ | _ | _ | i
    · obtain rfl := Option.some.inj hu; exact blk_cell hb 0
    · obtain rfl := Option.some.inj hu; exact blk_cell hb 1
    · obtain rfl := Option.some.inj hu; exact blk_cell hb 2
    · obtain rfl := Option.some.inj hu; exact blk_cell hb 3
    · obtain rfl := Option.some.inj hu; exact blk_cell hb 4
    · obtain rfl := Option.some.inj hu; exact blk_cell hb 5
    · simp at hu
  · simp at hj
theorem fresh_ne {w : World} {g : Nat} {o : Obj} {v : Value} (h : w.heap[g]? = some o) (hn : ∃ b, v.ownBlock = some b ∧ w.heap.size ≤ b) : some g ≠ v.ownBlock := by
  obtain ⟨b, h1, h2⟩ := hn
  rw [h1]
  intro e
  injection e with e
  have := (Array.getElem?_eq_some_iff.1 h).1
  omega
theorem after_ne {w : World} {g : Nat} {o : Obj} {v v1 : Value} (h : w.heap[g]? = some o) (hv : some g ≠ v.ownBlock) (hat : v1.ownBlock = v.ownBlock ∨ ∃ b, v1.ownBlock = some b ∧ w.heap.size ≤ b) : some g ≠ v1.ownBlock := by
  rcases hat with e | hn
  · rw [e]; exact hv
  · exact fresh_ne h hn
theorem cut_to (A : Option Addr) (i c k : Nat) (hk : k ≤ i) (hc : i ≤ c) (W : World) : (Instr.slice 74 (.slice A i c) none (some (.int .i64 (k : Int))) none).run Tryd.prog W = .ok (.slice A k c) W := by
  obtain ⟨d, hd, _⟩ := Option.map_eq_some_iff.1 info25
  have h := Go.Proofs.YtfcifidjjbknaaaDoorW.PrintWords.cut_to (P := Tryd.prog) 74 25 .i64 Tryd.underlying74 hd A i c (k : Int) (by omega) (by omega) hc W
  rwa [Int.toNat_natCast] at h
theorem cut_from {w : World} {A : Option Addr} {c k : Nat} {xs : List S25} (h : Kd.C k25 w A xs.length xs) (hk : k ≤ xs.length) (hc : xs.length ≤ c) : ∃ (A2 : Option Addr) (c2 : Nat), (∀ W : World, (Instr.slice 74 (.slice A xs.length c) (some (.int .i64 (k : Int))) none none).run Tryd.prog W = .ok (.slice A2 (xs.length - k) c2) W) ∧ Kd.C k25 w A2 (xs.length - k) (xs.drop k) := by
  obtain ⟨d, hd, hz⟩ := Option.map_eq_some_iff.1 info25
  simp only [Prod.mk.injEq] at hz
  refine ⟨if c = k then A else A.map (·.add (k * 6)), c - k, fun W => ?_, ?_⟩
  rotate_left
  · have h2 := Kd.C_drop (c := c) h hk hc
    rw [List.length_drop] at h2
    exact h2
  · have h2 := Go.Proofs.YtfcifidjjbknaaaDoorW.PrintWords.cut_from (P := Tryd.prog) 74 25 .i64 Tryd.underlying74 hd 6 hz.2.1 A xs.length c (k : Int) (by omega) (by omega) W
    rw [Int.toNat_natCast] at h2
    exact h2
theorem row_nil (w : World) (base : Nat) : Row w base 0 (.slice none 0 0) := ⟨[], rfl, Kd.R_nil _ _ _ _ _⟩
def dwy.T7 : Bool × List (List Nat × List Nat) := (true, [([], []), ([], []), ([1], [1]), ([0, 2], [0, 2]), ([3], [3]), ([4], [4]), ([4], [4]), ([5, 6, 4], [4, 5, 6]), ([7, 4], [4, 7]), ([4], [4]), ([8, 9, 4, 4], [4, 8, 9]), ([4, 10], [4, 10])])
def dwy.B7 : List Nat := [0, 0, 2, 7, 15, 31, 31, 127, 255, 31, 1023, 2047]
theorem dwy.tab7 : rtab .any (opsOf Tryd.f57 7) = dwy.T7 := by kernel_rfl
theorem dwy.bits7 : waitsOk dwy.T7.2 dwy.B7 = true := by kernel_rfl
def dwy.T9 : Bool × List (List Nat × List Nat) := (true, [([], []), ([], []), ([], []), ([1, 2], [1, 2]), ([0, 3], [0, 3]), ([], []), ([5], [5]), ([4, 6, 4], [4, 6]), ([7, 7, 0, 1, 2, 3, 4, 5, 6, 7], [7])])
def dwy.B9 : List Nat := [0, 0, 0, 6, 15, 0, 32, 127, 255]
theorem dwy.tab9 : rtab .any (opsOf Tryd.f57 9) = dwy.T9 := by kernel_rfl
theorem dwy.bits9 : waitsOk dwy.T9.2 dwy.B9 = true := by kernel_rfl
set_option maxHeartbeats 4000000 in
set_option maxRecDepth 100000 in
theorem ways_walk (w : World) : Calls Tryd.prog 57 #[.agg #[.int .i64 1, .int .i64 2, .int .i64 3, .int .i64 5, .int .i64 4, .int .i64 6]] w fun e w' => ∃ v : Value, e = .returned v ∧ Row w' w.heap.size 24 v ∧ Below w.heap.size w w' := by
  go_enter Tryd.func57, Tryd.ntmps57
  go_wp2_with fail
  refine (DiS.search_calls _).mono ?_
  rintro e w1 ⟨v0, v1, l, rfl, hl, hr, hb⟩
  obtain ⟨bd, cd, rfl, _, hlt, _⟩ := Kd.R_form hr (by omega)
  rw [hl] at hr ⊢
  have HB0 := Go.Lib.hid (below_then ((Below.refl _ w).alloc (Nat.le_refl _) (.cells #[.int .i64 1, .int .i64 2, .int .i64 3, .int .i64 5, .int .i64 4, .int .i64 6] 25)) (by simp) hb)
  have HC := Go.Lib.hid (show Kd.C k25 w1 (some ⟨bd, 0, none⟩) 24 l by have h2 := (Kd.R_reads' hr).2.2; rwa [hl] at h2)
  clear hb hr hl hlt
  go_wp2_with fail
  go_loopw [5, 17] (fun v5 v17 wr => ∃ i : Nat, v17 = .int .i64 (i : Int) ∧ i ≤ 24 ∧ Row wr w.heap.size i v5 ∧ Below w1.heap.size w1 wr) (fun _ v17 _ => 24 - (intOf v17).toNat)
  case atStart => exact ⟨0, rfl, by omega, row_nil _ _, Below.refl _ _⟩
  case round =>
    obtain ⟨i, rfl, hi, hro, hb⟩ := hrel
    have HO := Go.Lib.hid hro
    have HB1 := Go.Lib.hid hb
    by_cases h24 : i < 24
    · obtain ⟨x0, x1, x2, x3, x4, x5, e0, e1, e2, e3, e4, e5⟩ := elem (HC.out) h24
      have e0 := pw_cell_below hb e0
      have e1 := pw_cell_below hb e1
      have e2 := pw_cell_below hb e2
      have e3 := pw_cell_below hb e3
      have e4 := pw_cell_below hb e4
      have e5 := pw_cell_below hb e5
      have HI := Go.Lib.hid h24
      have q0 : (0 : Int) ≤ (i : Int) := by omega
      have q1 : (i : Int) < 24 := by omega
      clear hro hb hi h24
      go_upto_region 6 with fail
      have n_BX := Go.Lib.hid (blk_new wr (.cells #[.int .i64 x0, .int .i64 x1, .int .i64 x2, .int .i64 x3, .int .i64 x4, .int .i64 x5] 25))
      have n_HO := Go.Lib.hid (HO.out.below ((Below.refl _ wr).alloc (Nat.le_refl _) (.cells #[.int .i64 x0, .int .i64 x1, .int .i64 x2, .int .i64 x3, .int .i64 x4, .int .i64 x5] 25)))
      have n_HB := Go.Lib.hid (HB1.out.alloc HB1.out.size (.cells #[.int .i64 x0, .int .i64 x1, .int .i64 x2, .int .i64 x3, .int .i64 x4, .int .i64 x5] 25))
      obtain ⟨X, hX⟩ : ∃ X, X = wr.heap.size := ⟨_, rfl⟩
      rw [← hX] at n_BX ⊢
      clear hX HO HB1 e0 e1 e2 e3 e4 e5
      generalize World.alloc _ _ = w5 at n_BX n_HO n_HB ⊢
      obtain ⟨xs, hlx, hR⟩ := n_HO.out
      obtain ⟨A5, c5, rfl, hc5, hC⟩ := Kd.R_reads hR
      rw [hlx] at hR hc5 hC ⊢
      have HR := Go.Lib.hid hR
      have HC5 := Go.Lib.hid (show Kd.C k25 w5 A5 xs.length xs by rw [hlx]; exact hC)
      have HL := Go.Lib.hid (And.intro hlx hc5)
      clear hlx hR hc5 hC n_HO
      go_wp2_with fail
      go_loopw [8] (fun v8 wq => ∃ k : Nat, v8 = .int .i64 (k : Int) ∧ k ≤ i ∧ Below w5.heap.size w5 wq) (fun v8 _ => i - (intOf v8).toNat)
      case atStart => exact ⟨0, rfl, Nat.zero_le _, Below.refl _ _⟩
      case round =>
        obtain ⟨k, rfl, hk, hb⟩ := hrel
        have HB := Go.Lib.hid hb
        have BX := n_BX
        by_cases hki : k < i
        · have HK := Go.Lib.hid hki
          have HKI := Go.Lib.hid hk
          obtain ⟨b5, c5', hf, _, _, _⟩ := Kd.R_form HR.out (by have := HL.out.1; omega)
          have hA : A5 = some ⟨b5, 0, none⟩ := by injection hf
          clear hf
          subst hA
          obtain ⟨y0, y1, y2, y3, y4, y5, e0, e1, e2, e3, e4, e5⟩ := elem HC5.out (show k < xs.length by have := HL.out.1; omega)
          have E0 := Go.Lib.hid e0
          have E1 := Go.Lib.hid e1
          have E2 := Go.Lib.hid e2
          have E3 := Go.Lib.hid e3
          have E4 := Go.Lib.hid e4
          have E5 := Go.Lib.hid e5
          have k0 : (0 : Int) ≤ (k : Int) := by omega
          have k1 : (k : Int) < (i : Int) := by omega
          have k2 : IntKind.i64.wrap ((k : Int) + 1) = ((k + 1 : Nat) : Int) := by rw [IntKind.wrap_i64]; omega
          clear hk hb hki e0 e1 e2 e3 e4 e5 HC HR n_BX
          go_upto_region 7 with fail
          refine start_ (n := 12) (S := fun w' => True) (ds := []) #[false, false, false, false, false, false, false, false, false, false, false, false] (by kernel_rfl) rfl rfl trivial (fun hHeld => ?_)
          refine with_tabW dwy.tab7 dwy.bits7 (fun HT_ HW_ => ?_)
          have n_HB := Go.Lib.hid (below_drew HB.out)
          clear HB
          have HB := n_HB
          clear n_HB
          generalize World.drew _ = w7_ at HB hHeld ⊢
          refine pure_ (i := 0) (N := some 21) (v := ?_) (a' := ?_) #[true, false, false, false, false, false, false, false, false, false, false, false] rfl rfl (any_of HT_.out (by kernel_rfl)) (fun _ _ _ h => h) (Or.inl ⟨by rfl, ?_⟩) ?_ ?_
          rotate_left
          · intro w'
            go_simp
            with_reducible rfl
          rotate_left
          · simp only [Act.put, List.setIfInBounds_toArray, List.set_cons_zero, List.set_cons_succ, i64_w, i32_w]
            rfl
          refine pure_ (i := 1) (N := some 22) (v := ?_) (a' := ?_) #[true, true, false, false, false, false, false, false, false, false, false, false] rfl rfl (any_of HT_.out (by kernel_rfl)) (fun _ _ _ h => h) (Or.inl ⟨by rfl, ?_⟩) ?_ ?_
          rotate_left
          · intro w'
            go_simp
            with_reducible rfl
          rotate_left
          · simp only [Act.put, List.setIfInBounds_toArray, List.set_cons_zero, List.set_cons_succ, i64_w, i32_w]
            rfl
          refine inv_at [2, 3, 4, 5, 6, 7, 8, 9, 10, 11] (fun a0_ b a w' => ∃ (r_ : Bool) (m10_ : Value) (m11_ : Value), a = putSel a0_ b [(2, 23, .int .i64 (i : Int)), (3, 24, .bool true), (4, 25, .bool true), (5, 26, .slice (some ⟨b5, 0, none⟩) i c5), (6, 27, .int .i64 (k : Int)), (7, 28, .pointer (some ⟨b5, k * 6, none⟩)), (8, 29, .agg #[.int .i64 y0, .int .i64 y1, .int .i64 y2, .int .i64 y3, .int .i64 y4, .int .i64 y5]), (9, 30, .agg #[.int .i64 x0, .int .i64 x1, .int .i64 x2, .int .i64 x3, .int .i64 x4, .int .i64 x5]), (10, 31, m10_), (11, 32, m11_)] ∧ (Below w5.heap.size w5 w') ∧ (b 10 = true → (m10_ : Value) = .bool r_) ∧ (b 11 = true → (m11_ : Value) = .bool r_)) HT_.out HW_.out (by kernel_rfl) (by kernel_rfl) ?_ ?_ ?_
          · exact ⟨false, .bool false, .bool false, by simp only [putSel, Bool.false_eq_true, if_false], HB.out, fun h_ => absurd h_ (by decide), fun h_ => absurd h_ (by decide)⟩
          · skip
            clear HB
            refine steps_cons ?_ ?_
            · rintro b a w' ⟨r_, m10_, m11_, ha, Q_HB, Q_X10_, Q_X11_⟩ hb_ hon hoff
              refine ⟨_, rfl, fun K hK => ?_⟩
              have e22 : a.tmps[22]? = some (.slice (some ⟨b5, 0, none⟩) i c5) := by rw [ha]; exact (putSel_off rfl).trans rfl
              replace ha := Aside0.mk ha
              have HB := Aside0.mk Q_HB
              refine value_ (w1 := w') (v := .int .i64 (i : Int)) (by rfl) rfl ?_ ?_
              · go_simp
                (try simp only [i64_w])
                try rfl
              refine hK.out _ _ ⟨r_, m10_, m11_, (by rw [ha.out]; exact putSel_upk 0 hb_ rfl rfl rfl), Q_HB, fun h0_ => absurd ((hoff 10 (by kernel_rfl)).symm.trans h0_) (by decide), fun h0_ => absurd ((hoff 11 (by kernel_rfl)).symm.trans h0_) (by decide)⟩
            refine steps_cons ?_ ?_
            · rintro b a w' ⟨r_, m10_, m11_, ha, Q_HB, Q_X10_, Q_X11_⟩ hb_ hon hoff
              refine ⟨_, rfl, fun K hK => ?_⟩
              have e21 : a.tmps[21]? = some (.int .i64 (k : Int)) := by rw [ha]; exact (putSel_off rfl).trans rfl
              have e23 : a.tmps[23]? = some (.int .i64 (i : Int)) := by rw [ha]; exact putSel_on (e := (2, 23, .int .i64 (i : Int))) 0 rfl rfl (hon 2 (by kernel_rfl)) rfl
              replace ha := Aside0.mk ha
              have HB := Aside0.mk Q_HB
              have hd_ : decide ((k : Int) < (i : Int)) = true := decide_eq_true k1
              refine value_ (w1 := w') (v := .bool true) (by rfl) rfl ?_ ?_
              · go_simp
                (try simp only [i64_w])
                try rfl
              refine hK.out _ _ ⟨r_, m10_, m11_, (by rw [ha.out]; exact putSel_upk 1 hb_ rfl rfl rfl), Q_HB, fun h0_ => absurd ((hoff 10 (by kernel_rfl)).symm.trans h0_) (by decide), fun h0_ => absurd ((hoff 11 (by kernel_rfl)).symm.trans h0_) (by decide)⟩
            refine steps_cons ?_ ?_
            · rintro b a w' ⟨r_, m10_, m11_, ha, Q_HB, Q_X10_, Q_X11_⟩ hb_ hon hoff
              refine ⟨_, rfl, fun K hK => ?_⟩
              have e24 : a.tmps[24]? = some (.bool true) := by rw [ha]; exact putSel_on (e := (3, 24, .bool true)) 1 rfl rfl (hon 3 (by kernel_rfl)) rfl
              replace ha := Aside0.mk ha
              have HB := Aside0.mk Q_HB
              refine value_ (w1 := w') (v := .bool true) (by rfl) rfl ?_ ?_
              · go_simp
                (try simp only [i64_w])
                try rfl
              refine hK.out _ _ ⟨r_, m10_, m11_, (by rw [ha.out]; exact putSel_upk 2 hb_ rfl rfl rfl), Q_HB, fun h0_ => absurd ((hoff 10 (by kernel_rfl)).symm.trans h0_) (by decide), fun h0_ => absurd ((hoff 11 (by kernel_rfl)).symm.trans h0_) (by decide)⟩
            refine steps_cons ?_ ?_
            · rintro b a w' ⟨r_, m10_, m11_, ha, Q_HB, Q_X10_, Q_X11_⟩ hb_ hon hoff
              refine ⟨_, rfl, fun K hK => ?_⟩
              have e5 : a.tmps[5]? = some (.slice (some ⟨b5, 0, none⟩) i c5) := by rw [ha]; exact (putSel_off rfl).trans rfl
              have e25 : a.tmps[25]? = some (.bool true) := by rw [ha]; exact putSel_on (e := (4, 25, .bool true)) 2 rfl rfl (hon 4 (by kernel_rfl)) rfl
              replace ha := Aside0.mk ha
              have HB := Aside0.mk Q_HB
              refine value_ (w1 := w') (v := .slice (some ⟨b5, 0, none⟩) i c5) (wanted_on rfl rfl rfl (e25.trans (by first | rfl | (simp [*]; done)))) rfl ?_ ?_
              · go_simp
                (try simp only [i64_w])
                try rfl
              refine hK.out _ _ ⟨r_, m10_, m11_, (by rw [ha.out]; exact putSel_upk 3 hb_ rfl rfl rfl), Q_HB, fun h0_ => absurd ((hoff 10 (by kernel_rfl)).symm.trans h0_) (by decide), fun h0_ => absurd ((hoff 11 (by kernel_rfl)).symm.trans h0_) (by decide)⟩
            refine steps_cons ?_ ?_
            · rintro b a w' ⟨r_, m10_, m11_, ha, Q_HB, Q_X10_, Q_X11_⟩ hb_ hon hoff
              refine ⟨_, rfl, fun K hK => ?_⟩
              have e8 : a.tmps[8]? = some (.int .i64 (k : Int)) := by rw [ha]; exact (putSel_off rfl).trans rfl
              have e25 : a.tmps[25]? = some (.bool true) := by rw [ha]; exact putSel_on (e := (4, 25, .bool true)) 2 rfl rfl (hon 4 (by kernel_rfl)) rfl
              replace ha := Aside0.mk ha
              have HB := Aside0.mk Q_HB
              refine value_ (w1 := w') (v := .int .i64 (k : Int)) (wanted_on rfl rfl rfl (e25.trans (by first | rfl | (simp [*]; done)))) rfl ?_ ?_
              · go_simp
                (try simp only [i64_w])
                try rfl
              refine hK.out _ _ ⟨r_, m10_, m11_, (by rw [ha.out]; exact putSel_upk 4 hb_ rfl rfl rfl), Q_HB, fun h0_ => absurd ((hoff 10 (by kernel_rfl)).symm.trans h0_) (by decide), fun h0_ => absurd ((hoff 11 (by kernel_rfl)).symm.trans h0_) (by decide)⟩
            refine steps_cons ?_ ?_
            · rintro b a w' ⟨r_, m10_, m11_, ha, Q_HB, Q_X10_, Q_X11_⟩ hb_ hon hoff
              refine ⟨_, rfl, fun K hK => ?_⟩
              have e26 : a.tmps[26]? = some (.slice (some ⟨b5, 0, none⟩) i c5) := by rw [ha]; exact putSel_on (e := (5, 26, .slice (some ⟨b5, 0, none⟩) i c5)) 3 rfl rfl (hon 5 (by kernel_rfl)) rfl
              have e27 : a.tmps[27]? = some (.int .i64 (k : Int)) := by rw [ha]; exact putSel_on (e := (6, 27, .int .i64 (k : Int))) 4 rfl rfl (hon 6 (by kernel_rfl)) rfl
              have e25 : a.tmps[25]? = some (.bool true) := by rw [ha]; exact putSel_on (e := (4, 25, .bool true)) 2 rfl rfl (hon 4 (by kernel_rfl)) rfl
              replace ha := Aside0.mk ha
              have HB := Aside0.mk Q_HB
              have k0_ := k0
              have k1_ := k1
              refine value_ (w1 := w') (v := .pointer (some ⟨b5, k * 6, none⟩)) (wanted_on rfl rfl rfl (e25.trans (by first | rfl | (simp [*]; done)))) rfl ?_ ?_
              · go_simp
                (try simp only [i64_w])
                try rfl
              refine hK.out _ _ ⟨r_, m10_, m11_, (by rw [ha.out]; exact putSel_upk 5 hb_ rfl rfl rfl), Q_HB, fun h0_ => absurd ((hoff 10 (by kernel_rfl)).symm.trans h0_) (by decide), fun h0_ => absurd ((hoff 11 (by kernel_rfl)).symm.trans h0_) (by decide)⟩
            refine steps_cons ?_ ?_
            · rintro b a w' ⟨r_, m10_, m11_, ha, Q_HB, Q_X10_, Q_X11_⟩ hb_ hon hoff
              refine ⟨_, rfl, fun K hK => ?_⟩
              have e28 : a.tmps[28]? = some (.pointer (some ⟨b5, k * 6, none⟩)) := by rw [ha]; exact putSel_on (e := (7, 28, .pointer (some ⟨b5, k * 6, none⟩))) 5 rfl rfl (hon 7 (by kernel_rfl)) rfl
              have e25 : a.tmps[25]? = some (.bool true) := by rw [ha]; exact putSel_on (e := (4, 25, .bool true)) 2 rfl rfl (hon 4 (by kernel_rfl)) rfl
              replace ha := Aside0.mk ha
              have HB := Aside0.mk Q_HB
              have o0 : w'.cell? ⟨b5, k * 6, none⟩ = some (.int .i64 y0) := pw_cell_below HB.out E0.out
              have o1 : w'.cell? ⟨b5, k * 6 + 1, none⟩ = some (.int .i64 y1) := pw_cell_below HB.out E1.out
              have o2 : w'.cell? ⟨b5, k * 6 + 2, none⟩ = some (.int .i64 y2) := pw_cell_below HB.out E2.out
              have o3 : w'.cell? ⟨b5, k * 6 + 3, none⟩ = some (.int .i64 y3) := pw_cell_below HB.out E3.out
              have o4 : w'.cell? ⟨b5, k * 6 + 4, none⟩ = some (.int .i64 y4) := pw_cell_below HB.out E4.out
              have o5 : w'.cell? ⟨b5, k * 6 + 5, none⟩ = some (.int .i64 y5) := pw_cell_below HB.out E5.out
              refine value_ (w1 := w') (v := .agg #[.int .i64 y0, .int .i64 y1, .int .i64 y2, .int .i64 y3, .int .i64 y4, .int .i64 y5]) (wanted_on rfl rfl rfl (e25.trans (by first | rfl | (simp [*]; done)))) rfl ?_ ?_
              · go_simp
                (try simp only [i64_w])
                try rfl
              refine hK.out _ _ ⟨r_, m10_, m11_, (by rw [ha.out]; exact putSel_upk 6 hb_ rfl rfl rfl), Q_HB, fun h0_ => absurd ((hoff 10 (by kernel_rfl)).symm.trans h0_) (by decide), fun h0_ => absurd ((hoff 11 (by kernel_rfl)).symm.trans h0_) (by decide)⟩
            refine steps_cons ?_ ?_
            · rintro b a w' ⟨r_, m10_, m11_, ha, Q_HB, Q_X10_, Q_X11_⟩ hb_ hon hoff
              refine ⟨_, rfl, fun K hK => ?_⟩
              have e7 : a.tmps[7]? = some (.pointer (some ⟨X, 0, none⟩)) := by rw [ha]; exact (putSel_off rfl).trans rfl
              have e25 : a.tmps[25]? = some (.bool true) := by rw [ha]; exact putSel_on (e := (4, 25, .bool true)) 2 rfl rfl (hon 4 (by kernel_rfl)) rfl
              replace ha := Aside0.mk ha
              have HB := Aside0.mk Q_HB
              have o0 : w'.cell? ⟨X, 0, none⟩ = some (.int .i64 x0) := pw_cell_below HB.out (blk_cell BX.out 0)
              have o1 : w'.cell? ⟨X, 1, none⟩ = some (.int .i64 x1) := pw_cell_below HB.out (blk_cell BX.out 1)
              have o2 : w'.cell? ⟨X, 2, none⟩ = some (.int .i64 x2) := pw_cell_below HB.out (blk_cell BX.out 2)
              have o3 : w'.cell? ⟨X, 3, none⟩ = some (.int .i64 x3) := pw_cell_below HB.out (blk_cell BX.out 3)
              have o4 : w'.cell? ⟨X, 4, none⟩ = some (.int .i64 x4) := pw_cell_below HB.out (blk_cell BX.out 4)
              have o5 : w'.cell? ⟨X, 5, none⟩ = some (.int .i64 x5) := pw_cell_below HB.out (blk_cell BX.out 5)
              refine value_ (w1 := w') (v := .agg #[.int .i64 x0, .int .i64 x1, .int .i64 x2, .int .i64 x3, .int .i64 x4, .int .i64 x5]) (wanted_on rfl rfl rfl (e25.trans (by first | rfl | (simp [*]; done)))) rfl ?_ ?_
              · go_simp
                (try simp only [i64_w])
                try rfl
              refine hK.out _ _ ⟨r_, m10_, m11_, (by rw [ha.out]; exact putSel_upk 7 hb_ rfl rfl rfl), Q_HB, fun h0_ => absurd ((hoff 10 (by kernel_rfl)).symm.trans h0_) (by decide), fun h0_ => absurd ((hoff 11 (by kernel_rfl)).symm.trans h0_) (by decide)⟩
            refine steps_cons ?_ ?_
            · rintro b a w' ⟨r_, m10_, m11_, ha, Q_HB, Q_X10_, Q_X11_⟩ hb_ hon hoff
              refine ⟨_, rfl, fun K hK => ?_⟩
              have e29 : a.tmps[29]? = some (.agg #[.int .i64 y0, .int .i64 y1, .int .i64 y2, .int .i64 y3, .int .i64 y4, .int .i64 y5]) := by rw [ha]; exact putSel_on (e := (8, 29, .agg #[.int .i64 y0, .int .i64 y1, .int .i64 y2, .int .i64 y3, .int .i64 y4, .int .i64 y5])) 6 rfl rfl (hon 8 (by kernel_rfl)) rfl
              have e30 : a.tmps[30]? = some (.agg #[.int .i64 x0, .int .i64 x1, .int .i64 x2, .int .i64 x3, .int .i64 x4, .int .i64 x5]) := by rw [ha]; exact putSel_on (e := (9, 30, .agg #[.int .i64 x0, .int .i64 x1, .int .i64 x2, .int .i64 x3, .int .i64 x4, .int .i64 x5])) 7 rfl rfl (hon 9 (by kernel_rfl)) rfl
              have e25 : a.tmps[25]? = some (.bool true) := by rw [ha]; exact putSel_on (e := (4, 25, .bool true)) 2 rfl rfl (hon 4 (by kernel_rfl)) rfl
              replace ha := Aside0.mk ha
              have HB := Aside0.mk Q_HB
              refine call_ 69 #[.agg #[.int .i64 y0, .int .i64 y1, .int .i64 y2, .int .i64 y3, .int .i64 y4, .int .i64 y5], .agg #[.int .i64 x0, .int .i64 x1, .int .i64 x2, .int .i64 x3, .int .i64 x4, .int .i64 x5]] (wanted_on rfl rfl rfl (e25.trans (by first | rfl | (simp [*]; done)))) rfl ?_ ?_
              · go_simp
                (try rfl)
              with_reducible refine (less_walk _ _ _ _ _ _ _ _ _ _ _ _ w').mono ?_
              rintro e' w1_ ⟨q_, rfl, hb⟩
              refine ⟨_, rfl, ?_⟩
              refine hK.out _ _ ⟨q_, (.bool q_), m11_, (by rw [ha.out]; exact putSel_upk 8 hb_ rfl rfl rfl), below_then HB.out HB.out.size hb, fun _ => rfl, fun h0_ => absurd ((hoff 11 (by kernel_rfl)).symm.trans h0_) (by decide)⟩
            refine steps_cons ?_ ?_
            · rintro b a w' ⟨r_, m10_, m11_, ha, Q_HB, Q_X10_, Q_X11_⟩ hb_ hon hoff
              refine ⟨_, rfl, fun K hK => ?_⟩
              have e25 : a.tmps[25]? = some (.bool true) := by rw [ha]; exact putSel_on (e := (4, 25, .bool true)) 2 rfl rfl (hon 4 (by kernel_rfl)) rfl
              have e31 : a.tmps[31]? = some (m10_) := by rw [ha]; exact putSel_on (e := (10, 31, m10_)) 8 rfl rfl (hon 10 (by kernel_rfl)) rfl
              rw [Q_X10_ (hon 10 (by kernel_rfl))] at e31
              replace ha := Aside0.mk ha
              have HB := Aside0.mk Q_HB
              refine value_ (w1 := w') (v := .bool r_) (by rfl) rfl ?_ ?_
              · go_simp
                (try simp only [i64_w])
                try rfl
              refine hK.out _ _ ⟨r_, m10_, (.bool r_), (by rw [ha.out]; exact putSel_upk 9 hb_ rfl rfl rfl), Q_HB, Q_X10_, fun _ => rfl⟩
            exact steps_nil
          · rintro b a w' hall ⟨r_, m10_, m11_, ha, Q_HB, Q_X10_, Q_X11_⟩
            clear HB
            have hb2_ := hall 2 (by kernel_rfl)
            have hb3_ := hall 3 (by kernel_rfl)
            have hb4_ := hall 4 (by kernel_rfl)
            have hb5_ := hall 5 (by kernel_rfl)
            have hb6_ := hall 6 (by kernel_rfl)
            have hb7_ := hall 7 (by kernel_rfl)
            have hb8_ := hall 8 (by kernel_rfl)
            have hb9_ := hall 9 (by kernel_rfl)
            have hb10_ := hall 10 (by kernel_rfl)
            have hb11_ := hall 11 (by kernel_rfl)
            subst ha
            obtain rfl := Q_X10_ hb10_
            obtain rfl := Q_X11_ hb11_
            simp only [putSel, hb2_, hb3_, hb4_, hb5_, hb6_, hb7_, hb8_, hb9_, hb10_, hb11_, if_true, Act.put, List.setIfInBounds_toArray, List.set_cons_zero, List.set_cons_succ]
            have HB := Aside0.mk Q_HB
            clear Q_HB
            clear hall hb2_ hb3_ hb4_ hb5_ hb6_ hb7_ hb8_ hb9_ hb10_ hb11_
            cases r_
            case true =>
              go_wp2_with fail
              go_roundw
              case rel => exact ⟨k + 1, rfl, HK.out, HB.out⟩
              case measure => have := HK.out; simp [intOf]; omega
            go_wp2_with fail
            have n_HB2 := Go.Lib.hid HB.out
            clear HB
            have HB := n_HB2
            clear n_HB2
            obtain ⟨A5, hA5⟩ : ∃ A5, A5 = some (⟨b5, 0, none⟩ : Addr) := ⟨_, rfl⟩
            rw [← hA5] at HC5 ⊢
            clear hA5 E0 E1 E2 E3 E4 E5 k0 k1 k2 HK
            have n_BX := Go.Lib.hid (blk_below BX.out HB.out)
            have n_HC := Go.Lib.hid (Kd.C_below HC5.out HB.out)
            have H51 := Go.Lib.hid (below_then n_HB.out n_HB.out.size HB.out)
            clear BX HC5 n_HB
            have BX := n_BX
            have HC5 := n_HC
            clear n_BX n_HC HB
            have HKL := Go.Lib.hid (show k ≤ xs.length by have := HL.out.1; have := HKI.out; omega)
            have HN9 := Go.Lib.hid HI.out
            refine start_ (n := 9) (S := fun w' => True) (ds := []) #[false, false, false, false, false, false, false, false, false] (by kernel_rfl) rfl rfl trivial (fun hHeld => ?_)
            refine with_tabW dwy.tab9 dwy.bits9 (fun HT_ HW_ => ?_)
            have n_BX := Go.Lib.hid (blk_drew BX.out)
            have n_HC5 := Go.Lib.hid (Kd.C_drew HC5.out)
            have n_H51 := Go.Lib.hid (below_drew H51.out)
            clear BX HC5 H51
            have BX := n_BX
            have HC5 := n_HC5
            have H51 := n_H51
            clear n_BX n_HC5 n_H51
            generalize World.drew _ = w9 at BX HC5 H51 hHeld ⊢
            have HB := Go.Lib.hid (Below.refl w9.heap.size w9)
            have LT0 := Go.Lib.hid (show ∀ k_ : Nat, (Value.bool false).ownBlock = some k_ → k_ < w9.heap.size from fun k_ h_ => by cases h_)
            have LT4 := Go.Lib.hid LT0.out
            refine pure_ (i := 1) (N := some 36) (v := ?_) (a' := ?_) #[false, true, false, false, false, false, false, false, false] rfl rfl (any_of HT_.out (by kernel_rfl)) (fun _ _ _ h => h) (Or.inl ⟨by rfl, ?_⟩) ?_ ?_
            rotate_left
            · intro w'
              go_simp
              with_reducible rfl
            rotate_left
            · simp only [Act.put, List.setIfInBounds_toArray, List.set_cons_zero, List.set_cons_succ, i64_w, i32_w]
              rfl
            refine pure_ (i := 2) (N := some 37) (v := ?_) (a' := ?_) #[false, true, true, false, false, false, false, false, false] rfl rfl (any_of HT_.out (by kernel_rfl)) (fun _ _ _ h => h) (Or.inl ⟨by rfl, ?_⟩) ?_ ?_
            rotate_left
            · intro w'
              go_simp
              with_reducible rfl
            rotate_left
            · simp only [Act.put, List.setIfInBounds_toArray, List.set_cons_zero, List.set_cons_succ, i64_w, i32_w]
              rfl
            refine inv_at [0, 3, 4, 5, 6, 7, 8] (fun a0_ b a w' => ∃ (v0_ : Value) (v4_ : Value) (v7_ : Value) (g6_ : Nat) (m6_ : Value) (m8_ : Value), a = putSel a0_ b [(0, 35, v0_), (3, 38, .slice A5 k c5), (4, 39, v4_), (5, 40, .agg #[.int .i64 x0, .int .i64 x1, .int .i64 x2, .int .i64 x3, .int .i64 x4, .int .i64 x5]), (6, 41, m6_), (7, 42, v7_), (8, 9, m8_)] ∧ (Below w9.heap.size w9 w') ∧ (b 0 = true → b 4 = false → Kd.R k25 25 w' w9.heap.size (fun _ => True) v0_ ([] : List S25)) ∧ (b 4 = true → b 7 = false → Row w' w9.heap.size k v4_) ∧ (b 7 = true → Row w' w9.heap.size (k + 1) v7_) ∧ (b 6 = true → w'.heap[g6_]? = some (.cells #[.int .i64 x0, .int .i64 x1, .int .i64 x2, .int .i64 x3, .int .i64 x4, .int .i64 x5] 25 (0, 0)) ∧ w9.heap.size ≤ g6_) ∧ (b 6 = true → some g6_ ≠ v0_.ownBlock) ∧ (b 6 = true → some g6_ ≠ v4_.ownBlock) ∧ ((∀ k_ : Nat, v0_.ownBlock = some k_ → k_ < w'.heap.size)) ∧ ((∀ k_ : Nat, v4_.ownBlock = some k_ → k_ < w'.heap.size)) ∧ (b 6 = true → (m6_ : Value) = .slice (some ⟨g6_, 0, none⟩) 1 1) ∧ (b 8 = true → (m8_ : Value) = v7_)) HT_.out HW_.out (by kernel_rfl) (by kernel_rfl) ?_ ?_ ?_
            · exact ⟨.bool false, .bool false, .bool false, 0, .bool false, .bool false, by simp only [putSel, Bool.false_eq_true, if_false], HB.out, fun h_ => absurd h_ (by decide), fun h_ => absurd h_ (by decide), fun h_ => absurd h_ (by decide), fun h_ => absurd h_ (by decide), fun h_ => absurd h_ (by decide), fun h_ => absurd h_ (by decide), LT0.out, LT4.out, fun h_ => absurd h_ (by decide), fun h_ => absurd h_ (by decide)⟩
            · skip
              clear HB LT0 LT4
              refine steps_cons ?_ ?_
              · rintro b a w' ⟨v0_, v4_, v7_, g6_, m6_, m8_, ha, Q_HB, Q_V0, Q_V4, Q_V7, Q_L6, Q_N0, Q_N4, Q_LT0, Q_LT4, Q_X6_, Q_X8_⟩ hb_ hon hoff
                refine ⟨_, rfl, fun K hK => ?_⟩
                replace ha := Aside0.mk ha
                have HB := Aside0.mk Q_HB
                have LT0 := Aside0.mk Q_LT0
                have LT4 := Aside0.mk Q_LT4
                refine Kd.R_lit_step k25 (w0 := w9) w9.heap.size 25 ?hg (N := 35) ?hd (xs := []) (inner := []) (ok := fun _ => True) (okp := fun _ => True) ?hr ?hp (fun _ hk => hk) trivial HB.out HB.out.size (by simp) ?_
                (case hd => rfl)
                (case hg => rfl)
                (case hr => first | (go_simp; done) | (go_simp; rfl))
                (case hp => exact Reps.none _ _)
                intro v1_ w1_ ho hb hg hnew
                refine hK.out _ _ ⟨v1_, v4_, v7_, g6_, m6_, m8_, (by rw [ha.out]; exact putSel_upk 0 hb_ rfl rfl rfl), hb, fun _ _ => ho, fun h0_ _ => absurd ((hoff 4 (by kernel_rfl)).symm.trans h0_) (by decide), fun h0_ => absurd ((hoff 7 (by kernel_rfl)).symm.trans h0_) (by decide), fun h0_ => ⟨blk_grown (Q_L6 h0_).1 hg (by simp), (Q_L6 h0_).2⟩, fun h0_ => fresh_ne (Q_L6 h0_).1 hnew, fun h0_ => (Q_N4 h0_), fun k_ h_ => Kd.R_lt ho k_ h_, fun k_ h_ => Nat.lt_of_lt_of_le (LT4.out k_ h_) hg.size, Q_X6_, fun h0_ => absurd ((hoff 8 (by kernel_rfl)).symm.trans h0_) (by decide)⟩
              refine steps_cons ?_ ?_
              · rintro b a w' ⟨v0_, v4_, v7_, g6_, m6_, m8_, ha, Q_HB, Q_V0, Q_V4, Q_V7, Q_L6, Q_N0, Q_N4, Q_LT0, Q_LT4, Q_X6_, Q_X8_⟩ hb_ hon hoff
                refine ⟨_, rfl, fun K hK => ?_⟩
                have e36 : a.tmps[36]? = some (.slice A5 i c5) := by rw [ha]; exact (putSel_off rfl).trans rfl
                have e37 : a.tmps[37]? = some (.int .i64 (k : Int)) := by rw [ha]; exact (putSel_off rfl).trans rfl
                replace ha := Aside0.mk ha
                have HB := Aside0.mk Q_HB
                have LT0 := Aside0.mk Q_LT0
                have LT4 := Aside0.mk Q_LT4
                have hs_ := cut_to A5 i c5 k HKI.out HL.out.2 w'
                refine value_ (w1 := w') (v := .slice A5 k c5) (by rfl) rfl ?_ ?_
                · go_simp
                  (try simp only [i64_w])
                  try rfl
                refine hK.out _ _ ⟨v0_, v4_, v7_, g6_, m6_, m8_, (by rw [ha.out]; exact putSel_upk 1 hb_ rfl rfl rfl), Q_HB, Q_V0, fun h0_ _ => absurd ((hoff 4 (by kernel_rfl)).symm.trans h0_) (by decide), fun h0_ => absurd ((hoff 7 (by kernel_rfl)).symm.trans h0_) (by decide), Q_L6, Q_N0, Q_N4, Q_LT0, Q_LT4, Q_X6_, fun h0_ => absurd ((hoff 8 (by kernel_rfl)).symm.trans h0_) (by decide)⟩
              refine steps_cons ?_ ?_
              · rintro b a w' ⟨v0_, v4_, v7_, g6_, m6_, m8_, ha, Q_HB, Q_V0, Q_V4, Q_V7, Q_L6, Q_N0, Q_N4, Q_LT0, Q_LT4, Q_X6_, Q_X8_⟩ hb_ hon hoff
                refine ⟨_, rfl, fun K hK => ?_⟩
                have e35 : a.tmps[35]? = some (v0_) := by rw [ha]; exact putSel_on (e := (0, 35, v0_)) 0 rfl rfl (hon 0 (by kernel_rfl)) rfl
                have e38 : a.tmps[38]? = some (.slice A5 k c5) := by rw [ha]; exact putSel_on (e := (3, 38, .slice A5 k c5)) 1 rfl rfl (hon 3 (by kernel_rfl)) rfl
                replace ha := Aside0.mk ha
                have HB := Aside0.mk Q_HB
                have V0 := Aside0.mk (Q_V0 (hon 0 (by kernel_rfl)) hb_)
                have LT0 := Aside0.mk Q_LT0
                have LT4 := Aside0.mk Q_LT4
                have hrk_ := take_C (Kd.C_below HC5.out HB.out) HKL.out
                refine Kd.R_append_rows_step k25 (Rr := (k25).K w') (w0 := w9) w9.heap.size (by rfl) (.tmp 35) (.tmp 38) 74 25 (.agg #[.int .i64 0, .int .i64 0, .int .i64 0, .int .i64 0, .int .i64 0, .int .i64 0]) 48 rfl Tryd.underlying74 info25 rfl (by decide) (by decide) v0_ [] (xs.take k) A5 k c5 (fun _ => True) (fun _ => False) (eval_of e35) (eval_of e38) V0.out hrk_ (fun x_ cs_ h_ => by obtain rfl := k25_open h_; exact k25_mkM _ _ _ _) (fun _ hk => hk.elim) (fun _ _ => trivial) HB.out HB.out.size (by have h_ := HN9.out; have h2_ := HKI.out; simp only [List.length_nil]; omega) ?_
                intro v1_ w1_ ho hb hg hat
                refine hK.out _ _ ⟨v0_, v1_, v7_, g6_, m6_, m8_, (by rw [ha.out]; exact putSel_upk 2 hb_ rfl rfl rfl), hb, fun _ h1_ => absurd ((up_self b 4).symm.trans h1_) (by decide), fun _ _ => ⟨_, by simp only [List.nil_append, List.length_take]; have h_ := HKL.out; omega, ho⟩, fun h0_ => absurd ((hoff 7 (by kernel_rfl)).symm.trans h0_) (by decide), fun h0_ => ⟨blk_grown (Q_L6 h0_).1 hg (Q_N0 h0_), (Q_L6 h0_).2⟩, fun h0_ => (Q_N0 h0_), fun h0_ => after_ne (Q_L6 h0_).1 (Q_N0 h0_) hat, fun k_ h_ => Nat.lt_of_lt_of_le (LT0.out k_ h_) hg.size, fun k_ h_ => Kd.R_lt ho k_ h_, Q_X6_, fun h0_ => absurd ((hoff 8 (by kernel_rfl)).symm.trans h0_) (by decide)⟩
              refine steps_cons ?_ ?_
              · rintro b a w' ⟨v0_, v4_, v7_, g6_, m6_, m8_, ha, Q_HB, Q_V0, Q_V4, Q_V7, Q_L6, Q_N0, Q_N4, Q_LT0, Q_LT4, Q_X6_, Q_X8_⟩ hb_ hon hoff
                refine ⟨_, rfl, fun K hK => ?_⟩
                have e7 : a.tmps[7]? = some (.pointer (some ⟨X, 0, none⟩)) := by rw [ha]; exact (putSel_off rfl).trans rfl
                replace ha := Aside0.mk ha
                have HB := Aside0.mk Q_HB
                have LT0 := Aside0.mk Q_LT0
                have LT4 := Aside0.mk Q_LT4
                have o0 : w'.cell? ⟨X, 0, none⟩ = some (.int .i64 x0) := pw_cell_below HB.out (blk_cell BX.out 0)
                have o1 : w'.cell? ⟨X, 1, none⟩ = some (.int .i64 x1) := pw_cell_below HB.out (blk_cell BX.out 1)
                have o2 : w'.cell? ⟨X, 2, none⟩ = some (.int .i64 x2) := pw_cell_below HB.out (blk_cell BX.out 2)
                have o3 : w'.cell? ⟨X, 3, none⟩ = some (.int .i64 x3) := pw_cell_below HB.out (blk_cell BX.out 3)
                have o4 : w'.cell? ⟨X, 4, none⟩ = some (.int .i64 x4) := pw_cell_below HB.out (blk_cell BX.out 4)
                have o5 : w'.cell? ⟨X, 5, none⟩ = some (.int .i64 x5) := pw_cell_below HB.out (blk_cell BX.out 5)
                refine value_ (w1 := w') (v := .agg #[.int .i64 x0, .int .i64 x1, .int .i64 x2, .int .i64 x3, .int .i64 x4, .int .i64 x5]) (by rfl) rfl ?_ ?_
                · go_simp
                  (try simp only [i64_w])
                  try rfl
                refine hK.out _ _ ⟨v0_, v4_, v7_, g6_, m6_, m8_, (by rw [ha.out]; exact putSel_upk 3 hb_ rfl rfl rfl), Q_HB, Q_V0, Q_V4, fun h0_ => absurd ((hoff 7 (by kernel_rfl)).symm.trans h0_) (by decide), fun h0_ => absurd ((hoff 6 (by kernel_rfl)).symm.trans h0_) (by decide), fun h0_ => absurd ((hoff 6 (by kernel_rfl)).symm.trans h0_) (by decide), fun h0_ => absurd ((hoff 6 (by kernel_rfl)).symm.trans h0_) (by decide), Q_LT0, Q_LT4, fun h0_ => absurd ((hoff 6 (by kernel_rfl)).symm.trans h0_) (by decide), fun h0_ => absurd ((hoff 8 (by kernel_rfl)).symm.trans h0_) (by decide)⟩
              refine steps_cons ?_ ?_
              · rintro b a w' ⟨v0_, v4_, v7_, g6_, m6_, m8_, ha, Q_HB, Q_V0, Q_V4, Q_V7, Q_L6, Q_N0, Q_N4, Q_LT0, Q_LT4, Q_X6_, Q_X8_⟩ hb_ hon hoff
                refine ⟨_, rfl, fun K hK => ?_⟩
                have e40 : a.tmps[40]? = some (.agg #[.int .i64 x0, .int .i64 x1, .int .i64 x2, .int .i64 x3, .int .i64 x4, .int .i64 x5]) := by rw [ha]; exact putSel_on (e := (5, 40, .agg #[.int .i64 x0, .int .i64 x1, .int .i64 x2, .int .i64 x3, .int .i64 x4, .int .i64 x5])) 3 rfl rfl (hon 5 (by kernel_rfl)) rfl
                replace ha := Aside0.mk ha
                have HB := Aside0.mk Q_HB
                have LT0 := Aside0.mk Q_LT0
                have LT4 := Aside0.mk Q_LT4
                refine value_ (w1 := ?_) (v := ?_) (by rfl) rfl ?_ ?_
                rotate_left 2
                · go_simp
                  constructor
                  · rfl
                  · rfl
                refine hK.out _ _ ⟨v0_, v4_, v7_, w'.heap.size, (.slice (some ⟨w'.heap.size, 0, none⟩) 1 1), m8_, (by rw [ha.out]; exact putSel_upk 4 hb_ rfl rfl rfl), HB.out.alloc HB.out.size _, fun h0_ h1_ => Kd.R_below (Q_V0 h0_ h1_) ((Below.refl _ w').alloc (Nat.le_refl _) _), fun h0_ h1_ => (Q_V4 h0_ h1_).below ((Below.refl _ w').alloc (Nat.le_refl _) _), fun h0_ => absurd ((hoff 7 (by kernel_rfl)).symm.trans h0_) (by decide), fun _ => ⟨blk_new _ _, HB.out.size⟩, fun _ => fun e_ => Nat.lt_irrefl _ (LT0.out _ e_.symm), fun _ => fun e_ => Nat.lt_irrefl _ (LT4.out _ e_.symm), fun k_ h_ => Nat.lt_of_lt_of_le (LT0.out k_ h_) (by simp), fun k_ h_ => Nat.lt_of_lt_of_le (LT4.out k_ h_) (by simp), fun _ => rfl, fun h0_ => absurd ((hoff 8 (by kernel_rfl)).symm.trans h0_) (by decide)⟩
              refine steps_cons ?_ ?_
              · rintro b a w' ⟨v0_, v4_, v7_, g6_, m6_, m8_, ha, Q_HB, Q_V0, Q_V4, Q_V7, Q_L6, Q_N0, Q_N4, Q_LT0, Q_LT4, Q_X6_, Q_X8_⟩ hb_ hon hoff
                refine ⟨_, rfl, fun K hK => ?_⟩
                have e39 : a.tmps[39]? = some (v4_) := by rw [ha]; exact putSel_on (e := (4, 39, v4_)) 2 rfl rfl (hon 4 (by kernel_rfl)) rfl
                have e41 : a.tmps[41]? = some (m6_) := by rw [ha]; exact putSel_on (e := (6, 41, m6_)) 4 rfl rfl (hon 6 (by kernel_rfl)) rfl
                rw [Q_X6_ (hon 6 (by kernel_rfl))] at e41
                replace ha := Aside0.mk ha
                have HB := Aside0.mk Q_HB
                have V4 := Aside0.mk (Q_V4 (hon 4 (by kernel_rfl)) hb_)
                have L6 := Aside0.mk (Q_L6 (hon 6 (by kernel_rfl)))
                have N0 := Aside0.mk (Q_N0 (hon 6 (by kernel_rfl)))
                have N4 := Aside0.mk (Q_N4 (hon 6 (by kernel_rfl)))
                have LT0 := Aside0.mk Q_LT0
                have LT4 := Aside0.mk Q_LT4
                obtain ⟨ys_, hy_, hy2_⟩ := V4.out
                have hlit_ := lit_C L6.out.1
                refine Kd.R_append_rows_step k25 (Rr := (k25).K w') (w0 := w9) w9.heap.size (by rfl) (.tmp 39) (.tmp 41) 74 25 (.agg #[.int .i64 0, .int .i64 0, .int .i64 0, .int .i64 0, .int .i64 0, .int .i64 0]) 48 rfl Tryd.underlying74 info25 rfl (by decide) (by decide) v4_ ys_ [(⟨x0, x1, x2, x3, x4, x5⟩ : S25)] (some ⟨g6_, 0, none⟩) 1 1 (fun _ => True) (fun _ => False) (eval_of e39) (eval_of e41) hy2_ hlit_ (fun x_ cs_ h_ => by obtain rfl := k25_open h_; exact k25_mkM _ _ _ _) (fun _ hk => hk.elim) (fun _ _ => trivial) HB.out HB.out.size (by have h_ := HN9.out; have h2_ := HKI.out; omega) ?_
                intro v1_ w1_ ho hb hg hat
                refine hK.out _ _ ⟨v0_, v4_, v1_, g6_, m6_, m8_, (by rw [ha.out]; exact putSel_upk 5 hb_ rfl rfl rfl), hb, fun _ h1_ => absurd ((hon 4 (by kernel_rfl)).symm.trans h1_) (by decide), fun _ h1_ => absurd ((up_self b 7).symm.trans h1_) (by decide), fun _ => ⟨_, by rw [List.length_append, hy_]; rfl, ho⟩, fun _ => ⟨blk_grown L6.out.1 hg N4.out, L6.out.2⟩, fun _ => N0.out, fun _ => N4.out, fun k_ h_ => Nat.lt_of_lt_of_le (LT0.out k_ h_) hg.size, fun k_ h_ => Nat.lt_of_lt_of_le (LT4.out k_ h_) hg.size, Q_X6_, fun h0_ => absurd ((hoff 8 (by kernel_rfl)).symm.trans h0_) (by decide)⟩
              refine steps_cons ?_ ?_
              · rintro b a w' ⟨v0_, v4_, v7_, g6_, m6_, m8_, ha, Q_HB, Q_V0, Q_V4, Q_V7, Q_L6, Q_N0, Q_N4, Q_LT0, Q_LT4, Q_X6_, Q_X8_⟩ hb_ hon hoff
                refine ⟨_, rfl, fun K hK => ?_⟩
                have e42 : a.tmps[42]? = some (v7_) := by rw [ha]; exact putSel_on (e := (7, 42, v7_)) 5 rfl rfl (hon 7 (by kernel_rfl)) rfl
                replace ha := Aside0.mk ha
                have HB := Aside0.mk Q_HB
                have V7 := Aside0.mk (Q_V7 (hon 7 (by kernel_rfl)))
                have L6 := Aside0.mk (Q_L6 (hon 6 (by kernel_rfl)))
                have N0 := Aside0.mk (Q_N0 (hon 6 (by kernel_rfl)))
                have N4 := Aside0.mk (Q_N4 (hon 6 (by kernel_rfl)))
                have LT0 := Aside0.mk Q_LT0
                have LT4 := Aside0.mk Q_LT4
                refine value_ (w1 := w') (v := v7_) (by rfl) rfl ?_ ?_
                · go_simp
                  (try simp only [i64_w])
                  try rfl
                refine hK.out _ _ ⟨v0_, v4_, v7_, g6_, m6_, (v7_), (by rw [ha.out]; exact putSel_upk 6 hb_ rfl rfl rfl), Q_HB, fun _ h1_ => absurd ((hon 4 (by kernel_rfl)).symm.trans h1_) (by decide), fun _ h1_ => absurd ((hon 7 (by kernel_rfl)).symm.trans h1_) (by decide), Q_V7, Q_L6, Q_N0, Q_N4, Q_LT0, Q_LT4, Q_X6_, fun _ => rfl⟩
              exact steps_nil
            · rintro b a w' hall ⟨v0_, v4_, v7_, g6_, m6_, m8_, ha, Q_HB, Q_V0, Q_V4, Q_V7, Q_L6, Q_N0, Q_N4, Q_LT0, Q_LT4, Q_X6_, Q_X8_⟩
              clear HB LT0 LT4
              have hb0_ := hall 0 (by kernel_rfl)
              have hb3_ := hall 3 (by kernel_rfl)
              have hb4_ := hall 4 (by kernel_rfl)
              have hb5_ := hall 5 (by kernel_rfl)
              have hb6_ := hall 6 (by kernel_rfl)
              have hb7_ := hall 7 (by kernel_rfl)
              have hb8_ := hall 8 (by kernel_rfl)
              subst ha
              obtain rfl := Q_X6_ hb6_
              obtain rfl := Q_X8_ hb8_
              simp only [putSel, hb0_, hb3_, hb4_, hb5_, hb6_, hb7_, hb8_, if_true, Act.put, List.setIfInBounds_toArray, List.set_cons_zero, List.set_cons_succ]
              have HB := Aside0.mk Q_HB
              clear Q_HB
              clear Q_V0
              clear Q_V4
              have V7 := Aside0.mk (Q_V7 hb7_)
              clear Q_V7
              have L6 := Aside0.mk (Q_L6 hb6_)
              clear Q_L6
              have N0 := Aside0.mk (Q_N0 hb6_)
              clear Q_N0
              have N4 := Aside0.mk (Q_N4 hb6_)
              clear Q_N4
              have LT0 := Aside0.mk Q_LT0
              clear Q_LT0
              have LT4 := Aside0.mk Q_LT4
              clear Q_LT4
              clear hall hb0_ hb3_ hb4_ hb5_ hb6_ hb7_ hb8_
              go_upto_region 10 with fail
              obtain ⟨ys, hy, hr7⟩ := V7.out
              have hlx := HL.out.1
              obtain ⟨A2, c2, hcut, hC2⟩ := cut_from (c := c5) (Kd.C_below HC5.out HB.out) HKL.out (by have := HL.out.2; omega)
              rw [hlx] at hcut hC2
              have HR7 := Go.Lib.hid hr7
              have HC2 := Go.Lib.hid hC2
              have HY := Go.Lib.hid hy
              have HBS := Go.Lib.hid H51.out.size
              have HB0S := Go.Lib.hid HB0.out.size
              have q2 : IntKind.i64.wrap ((i : Int) + 1) = ((i + 1 : Nat) : Int) := by rw [IntKind.wrap_i64]; have := HI.out; omega
              have hcut2 := hcut w'
              clear hr7 hC2 hy hlx hcut V7 L6 N0 N4 LT0 LT4
              go_wp2_with ((with_reducible refine gate_builtin (b := .append) (xs := #[.tmp 43, .tmp 46]) rfl ?_); at_builtin; refine Kd.R_append_rows k25 (Rr := k25.K w') (w0 := w9) w9.heap.size rfl (.tmp 43) (.tmp 46) 74 25 (.agg #[.int .i64 0, .int .i64 0, .int .i64 0, .int .i64 0, .int .i64 0, .int .i64 0]) 48 rfl Tryd.underlying74 info25 rfl (by decide) (by decide) _ ys (xs.drop k) A2 (i - k) c2 (fun _ => True) (fun _ => False) rfl rfl HR7.out HC2.out (fun x_ cs_ h_ => by obtain rfl := k25_open h_; exact k25_mkM _ _ _ _) (fun _ hk => hk.elim) (fun _ _ => trivial) HB.out HB.out.size (by have h_ := HN9.out; have h2_ := HKI.out; have h3_ := HY.out; omega) ?_; intro v8 w10 ho hb hg hat; have HO := Go.Lib.hid (And.intro ho hb); clear ho hb hg hat)
              exact ⟨⟨i + 1, by rw [Int.natCast_add]; rfl, HI.out, ⟨_, by rw [List.length_append, List.length_drop]; have h_ := HL.out.1; have h2_ := HY.out; have h3_ := HKI.out; omega, Kd.R_lower HO.out.1 (Nat.le_trans HB0S.out HBS.out)⟩, below_then H51.out H51.out.size HO.out.2⟩, by have h_ := HI.out; simp [intOf]; omega⟩
        · have k1 : decide ((k : Int) < (i : Int)) = false := decide_eq_false (by omega)
          have k1' : ¬ (k : Int) < (i : Int) := by omega
          have k1n : ¬ k < i := hki
          have HKI := Go.Lib.hid hk
          clear hk hb hki
          clear n_BX HC HR
          go_wp2_with fail
          repeat (go_quiet (fail); try go_wp2)
          generalize hW : World.drewN wr _ = w'
          have n_HB := Go.Lib.hid (show Below w5.heap.size w5 w' from hW ▸ pw_below_drewN HB.out _)
          clear HB hW
          have HB := n_HB
          clear n_HB
          clear k1 k1' k1n
          have n_BX := Go.Lib.hid (blk_below BX.out HB.out)
          have n_HC := Go.Lib.hid (Kd.C_below HC5.out HB.out)
          have H51 := Go.Lib.hid (below_then n_HB.out n_HB.out.size HB.out)
          clear BX HC5 n_HB
          have BX := n_BX
          have HC5 := n_HC
          clear n_BX n_HC HB
          have HKL := Go.Lib.hid (show k ≤ xs.length by have := HL.out.1; have := HKI.out; omega)
          have HN9 := Go.Lib.hid HI.out
          refine start_ (n := 9) (S := fun w' => True) (ds := []) #[false, false, false, false, false, false, false, false, false] (by kernel_rfl) rfl rfl trivial (fun hHeld => ?_)
          refine with_tabW dwy.tab9 dwy.bits9 (fun HT_ HW_ => ?_)
          have n_BX := Go.Lib.hid (blk_drew BX.out)
          have n_HC5 := Go.Lib.hid (Kd.C_drew HC5.out)
          have n_H51 := Go.Lib.hid (below_drew H51.out)
          clear BX HC5 H51
          have BX := n_BX
          have HC5 := n_HC5
          have H51 := n_H51
          clear n_BX n_HC5 n_H51
          generalize World.drew _ = w9 at BX HC5 H51 hHeld ⊢
          have HB := Go.Lib.hid (Below.refl w9.heap.size w9)
          have LT0 := Go.Lib.hid (show ∀ k_ : Nat, (Value.bool false).ownBlock = some k_ → k_ < w9.heap.size from fun k_ h_ => by cases h_)
          have LT4 := Go.Lib.hid LT0.out
          refine pure_ (i := 1) (N := some 36) (v := ?_) (a' := ?_) #[false, true, false, false, false, false, false, false, false] rfl rfl (any_of HT_.out (by kernel_rfl)) (fun _ _ _ h => h) (Or.inl ⟨by rfl, ?_⟩) ?_ ?_
          rotate_left
          · intro w'
            go_simp
            with_reducible rfl
          rotate_left
          · simp only [Act.put, List.setIfInBounds_toArray, List.set_cons_zero, List.set_cons_succ, i64_w, i32_w]
            rfl
          refine pure_ (i := 2) (N := some 37) (v := ?_) (a' := ?_) #[false, true, true, false, false, false, false, false, false] rfl rfl (any_of HT_.out (by kernel_rfl)) (fun _ _ _ h => h) (Or.inl ⟨by rfl, ?_⟩) ?_ ?_
          rotate_left
          · intro w'
            go_simp
            with_reducible rfl
          rotate_left
          · simp only [Act.put, List.setIfInBounds_toArray, List.set_cons_zero, List.set_cons_succ, i64_w, i32_w]
            rfl
          refine inv_at [0, 3, 4, 5, 6, 7, 8] (fun a0_ b a w' => ∃ (v0_ : Value) (v4_ : Value) (v7_ : Value) (g6_ : Nat) (m6_ : Value) (m8_ : Value), a = putSel a0_ b [(0, 35, v0_), (3, 38, .slice A5 k c5), (4, 39, v4_), (5, 40, .agg #[.int .i64 x0, .int .i64 x1, .int .i64 x2, .int .i64 x3, .int .i64 x4, .int .i64 x5]), (6, 41, m6_), (7, 42, v7_), (8, 9, m8_)] ∧ (Below w9.heap.size w9 w') ∧ (b 0 = true → b 4 = false → Kd.R k25 25 w' w9.heap.size (fun _ => True) v0_ ([] : List S25)) ∧ (b 4 = true → b 7 = false → Row w' w9.heap.size k v4_) ∧ (b 7 = true → Row w' w9.heap.size (k + 1) v7_) ∧ (b 6 = true → w'.heap[g6_]? = some (.cells #[.int .i64 x0, .int .i64 x1, .int .i64 x2, .int .i64 x3, .int .i64 x4, .int .i64 x5] 25 (0, 0)) ∧ w9.heap.size ≤ g6_) ∧ (b 6 = true → some g6_ ≠ v0_.ownBlock) ∧ (b 6 = true → some g6_ ≠ v4_.ownBlock) ∧ ((∀ k_ : Nat, v0_.ownBlock = some k_ → k_ < w'.heap.size)) ∧ ((∀ k_ : Nat, v4_.ownBlock = some k_ → k_ < w'.heap.size)) ∧ (b 6 = true → (m6_ : Value) = .slice (some ⟨g6_, 0, none⟩) 1 1) ∧ (b 8 = true → (m8_ : Value) = v7_)) HT_.out HW_.out (by kernel_rfl) (by kernel_rfl) ?_ ?_ ?_
          · exact ⟨.bool false, .bool false, .bool false, 0, .bool false, .bool false, by simp only [putSel, Bool.false_eq_true, if_false], HB.out, fun h_ => absurd h_ (by decide), fun h_ => absurd h_ (by decide), fun h_ => absurd h_ (by decide), fun h_ => absurd h_ (by decide), fun h_ => absurd h_ (by decide), fun h_ => absurd h_ (by decide), LT0.out, LT4.out, fun h_ => absurd h_ (by decide), fun h_ => absurd h_ (by decide)⟩
          · skip
            clear HB LT0 LT4
            refine steps_cons ?_ ?_
            · rintro b a w' ⟨v0_, v4_, v7_, g6_, m6_, m8_, ha, Q_HB, Q_V0, Q_V4, Q_V7, Q_L6, Q_N0, Q_N4, Q_LT0, Q_LT4, Q_X6_, Q_X8_⟩ hb_ hon hoff
              refine ⟨_, rfl, fun K hK => ?_⟩
              replace ha := Aside0.mk ha
              have HB := Aside0.mk Q_HB
              have LT0 := Aside0.mk Q_LT0
              have LT4 := Aside0.mk Q_LT4
              refine Kd.R_lit_step k25 (w0 := w9) w9.heap.size 25 ?hg (N := 35) ?hd (xs := []) (inner := []) (ok := fun _ => True) (okp := fun _ => True) ?hr ?hp (fun _ hk => hk) trivial HB.out HB.out.size (by simp) ?_
              (case hd => rfl)
              (case hg => rfl)
              (case hr => first | (go_simp; done) | (go_simp; rfl))
              (case hp => exact Reps.none _ _)
              intro v1_ w1_ ho hb hg hnew
              refine hK.out _ _ ⟨v1_, v4_, v7_, g6_, m6_, m8_, (by rw [ha.out]; exact putSel_upk 0 hb_ rfl rfl rfl), hb, fun _ _ => ho, fun h0_ _ => absurd ((hoff 4 (by kernel_rfl)).symm.trans h0_) (by decide), fun h0_ => absurd ((hoff 7 (by kernel_rfl)).symm.trans h0_) (by decide), fun h0_ => ⟨blk_grown (Q_L6 h0_).1 hg (by simp), (Q_L6 h0_).2⟩, fun h0_ => fresh_ne (Q_L6 h0_).1 hnew, fun h0_ => (Q_N4 h0_), fun k_ h_ => Kd.R_lt ho k_ h_, fun k_ h_ => Nat.lt_of_lt_of_le (LT4.out k_ h_) hg.size, Q_X6_, fun h0_ => absurd ((hoff 8 (by kernel_rfl)).symm.trans h0_) (by decide)⟩
            refine steps_cons ?_ ?_
            · rintro b a w' ⟨v0_, v4_, v7_, g6_, m6_, m8_, ha, Q_HB, Q_V0, Q_V4, Q_V7, Q_L6, Q_N0, Q_N4, Q_LT0, Q_LT4, Q_X6_, Q_X8_⟩ hb_ hon hoff
              refine ⟨_, rfl, fun K hK => ?_⟩
              have e36 : a.tmps[36]? = some (.slice A5 i c5) := by rw [ha]; exact (putSel_off rfl).trans rfl
              have e37 : a.tmps[37]? = some (.int .i64 (k : Int)) := by rw [ha]; exact (putSel_off rfl).trans rfl
              replace ha := Aside0.mk ha
              have HB := Aside0.mk Q_HB
              have LT0 := Aside0.mk Q_LT0
              have LT4 := Aside0.mk Q_LT4
              have hs_ := cut_to A5 i c5 k HKI.out HL.out.2 w'
              refine value_ (w1 := w') (v := .slice A5 k c5) (by rfl) rfl ?_ ?_
              · go_simp
                (try simp only [i64_w])
                try rfl
              refine hK.out _ _ ⟨v0_, v4_, v7_, g6_, m6_, m8_, (by rw [ha.out]; exact putSel_upk 1 hb_ rfl rfl rfl), Q_HB, Q_V0, fun h0_ _ => absurd ((hoff 4 (by kernel_rfl)).symm.trans h0_) (by decide), fun h0_ => absurd ((hoff 7 (by kernel_rfl)).symm.trans h0_) (by decide), Q_L6, Q_N0, Q_N4, Q_LT0, Q_LT4, Q_X6_, fun h0_ => absurd ((hoff 8 (by kernel_rfl)).symm.trans h0_) (by decide)⟩
            refine steps_cons ?_ ?_
            · rintro b a w' ⟨v0_, v4_, v7_, g6_, m6_, m8_, ha, Q_HB, Q_V0, Q_V4, Q_V7, Q_L6, Q_N0, Q_N4, Q_LT0, Q_LT4, Q_X6_, Q_X8_⟩ hb_ hon hoff
              refine ⟨_, rfl, fun K hK => ?_⟩
              have e35 : a.tmps[35]? = some (v0_) := by rw [ha]; exact putSel_on (e := (0, 35, v0_)) 0 rfl rfl (hon 0 (by kernel_rfl)) rfl
              have e38 : a.tmps[38]? = some (.slice A5 k c5) := by rw [ha]; exact putSel_on (e := (3, 38, .slice A5 k c5)) 1 rfl rfl (hon 3 (by kernel_rfl)) rfl
              replace ha := Aside0.mk ha
              have HB := Aside0.mk Q_HB
              have V0 := Aside0.mk (Q_V0 (hon 0 (by kernel_rfl)) hb_)
              have LT0 := Aside0.mk Q_LT0
              have LT4 := Aside0.mk Q_LT4
              have hrk_ := take_C (Kd.C_below HC5.out HB.out) HKL.out
              refine Kd.R_append_rows_step k25 (Rr := (k25).K w') (w0 := w9) w9.heap.size (by rfl) (.tmp 35) (.tmp 38) 74 25 (.agg #[.int .i64 0, .int .i64 0, .int .i64 0, .int .i64 0, .int .i64 0, .int .i64 0]) 48 rfl Tryd.underlying74 info25 rfl (by decide) (by decide) v0_ [] (xs.take k) A5 k c5 (fun _ => True) (fun _ => False) (eval_of e35) (eval_of e38) V0.out hrk_ (fun x_ cs_ h_ => by obtain rfl := k25_open h_; exact k25_mkM _ _ _ _) (fun _ hk => hk.elim) (fun _ _ => trivial) HB.out HB.out.size (by have h_ := HN9.out; have h2_ := HKI.out; simp only [List.length_nil]; omega) ?_
              intro v1_ w1_ ho hb hg hat
              refine hK.out _ _ ⟨v0_, v1_, v7_, g6_, m6_, m8_, (by rw [ha.out]; exact putSel_upk 2 hb_ rfl rfl rfl), hb, fun _ h1_ => absurd ((up_self b 4).symm.trans h1_) (by decide), fun _ _ => ⟨_, by simp only [List.nil_append, List.length_take]; have h_ := HKL.out; omega, ho⟩, fun h0_ => absurd ((hoff 7 (by kernel_rfl)).symm.trans h0_) (by decide), fun h0_ => ⟨blk_grown (Q_L6 h0_).1 hg (Q_N0 h0_), (Q_L6 h0_).2⟩, fun h0_ => (Q_N0 h0_), fun h0_ => after_ne (Q_L6 h0_).1 (Q_N0 h0_) hat, fun k_ h_ => Nat.lt_of_lt_of_le (LT0.out k_ h_) hg.size, fun k_ h_ => Kd.R_lt ho k_ h_, Q_X6_, fun h0_ => absurd ((hoff 8 (by kernel_rfl)).symm.trans h0_) (by decide)⟩
            refine steps_cons ?_ ?_
            · rintro b a w' ⟨v0_, v4_, v7_, g6_, m6_, m8_, ha, Q_HB, Q_V0, Q_V4, Q_V7, Q_L6, Q_N0, Q_N4, Q_LT0, Q_LT4, Q_X6_, Q_X8_⟩ hb_ hon hoff
              refine ⟨_, rfl, fun K hK => ?_⟩
              have e7 : a.tmps[7]? = some (.pointer (some ⟨X, 0, none⟩)) := by rw [ha]; exact (putSel_off rfl).trans rfl
              replace ha := Aside0.mk ha
              have HB := Aside0.mk Q_HB
              have LT0 := Aside0.mk Q_LT0
              have LT4 := Aside0.mk Q_LT4
              have o0 : w'.cell? ⟨X, 0, none⟩ = some (.int .i64 x0) := pw_cell_below HB.out (blk_cell BX.out 0)
              have o1 : w'.cell? ⟨X, 1, none⟩ = some (.int .i64 x1) := pw_cell_below HB.out (blk_cell BX.out 1)
              have o2 : w'.cell? ⟨X, 2, none⟩ = some (.int .i64 x2) := pw_cell_below HB.out (blk_cell BX.out 2)
              have o3 : w'.cell? ⟨X, 3, none⟩ = some (.int .i64 x3) := pw_cell_below HB.out (blk_cell BX.out 3)
              have o4 : w'.cell? ⟨X, 4, none⟩ = some (.int .i64 x4) := pw_cell_below HB.out (blk_cell BX.out 4)
              have o5 : w'.cell? ⟨X, 5, none⟩ = some (.int .i64 x5) := pw_cell_below HB.out (blk_cell BX.out 5)
              refine value_ (w1 := w') (v := .agg #[.int .i64 x0, .int .i64 x1, .int .i64 x2, .int .i64 x3, .int .i64 x4, .int .i64 x5]) (by rfl) rfl ?_ ?_
              · go_simp
                (try simp only [i64_w])
                try rfl
              refine hK.out _ _ ⟨v0_, v4_, v7_, g6_, m6_, m8_, (by rw [ha.out]; exact putSel_upk 3 hb_ rfl rfl rfl), Q_HB, Q_V0, Q_V4, fun h0_ => absurd ((hoff 7 (by kernel_rfl)).symm.trans h0_) (by decide), fun h0_ => absurd ((hoff 6 (by kernel_rfl)).symm.trans h0_) (by decide), fun h0_ => absurd ((hoff 6 (by kernel_rfl)).symm.trans h0_) (by decide), fun h0_ => absurd ((hoff 6 (by kernel_rfl)).symm.trans h0_) (by decide), Q_LT0, Q_LT4, fun h0_ => absurd ((hoff 6 (by kernel_rfl)).symm.trans h0_) (by decide), fun h0_ => absurd ((hoff 8 (by kernel_rfl)).symm.trans h0_) (by decide)⟩
            refine steps_cons ?_ ?_
            · rintro b a w' ⟨v0_, v4_, v7_, g6_, m6_, m8_, ha, Q_HB, Q_V0, Q_V4, Q_V7, Q_L6, Q_N0, Q_N4, Q_LT0, Q_LT4, Q_X6_, Q_X8_⟩ hb_ hon hoff
              refine ⟨_, rfl, fun K hK => ?_⟩
              have e40 : a.tmps[40]? = some (.agg #[.int .i64 x0, .int .i64 x1, .int .i64 x2, .int .i64 x3, .int .i64 x4, .int .i64 x5]) := by rw [ha]; exact putSel_on (e := (5, 40, .agg #[.int .i64 x0, .int .i64 x1, .int .i64 x2, .int .i64 x3, .int .i64 x4, .int .i64 x5])) 3 rfl rfl (hon 5 (by kernel_rfl)) rfl
              replace ha := Aside0.mk ha
              have HB := Aside0.mk Q_HB
              have LT0 := Aside0.mk Q_LT0
              have LT4 := Aside0.mk Q_LT4
              refine value_ (w1 := ?_) (v := ?_) (by rfl) rfl ?_ ?_
              rotate_left 2
              · go_simp
                constructor
                · rfl
                · rfl
              refine hK.out _ _ ⟨v0_, v4_, v7_, w'.heap.size, (.slice (some ⟨w'.heap.size, 0, none⟩) 1 1), m8_, (by rw [ha.out]; exact putSel_upk 4 hb_ rfl rfl rfl), HB.out.alloc HB.out.size _, fun h0_ h1_ => Kd.R_below (Q_V0 h0_ h1_) ((Below.refl _ w').alloc (Nat.le_refl _) _), fun h0_ h1_ => (Q_V4 h0_ h1_).below ((Below.refl _ w').alloc (Nat.le_refl _) _), fun h0_ => absurd ((hoff 7 (by kernel_rfl)).symm.trans h0_) (by decide), fun _ => ⟨blk_new _ _, HB.out.size⟩, fun _ => fun e_ => Nat.lt_irrefl _ (LT0.out _ e_.symm), fun _ => fun e_ => Nat.lt_irrefl _ (LT4.out _ e_.symm), fun k_ h_ => Nat.lt_of_lt_of_le (LT0.out k_ h_) (by simp), fun k_ h_ => Nat.lt_of_lt_of_le (LT4.out k_ h_) (by simp), fun _ => rfl, fun h0_ => absurd ((hoff 8 (by kernel_rfl)).symm.trans h0_) (by decide)⟩
            refine steps_cons ?_ ?_
            · rintro b a w' ⟨v0_, v4_, v7_, g6_, m6_, m8_, ha, Q_HB, Q_V0, Q_V4, Q_V7, Q_L6, Q_N0, Q_N4, Q_LT0, Q_LT4, Q_X6_, Q_X8_⟩ hb_ hon hoff
              refine ⟨_, rfl, fun K hK => ?_⟩
              have e39 : a.tmps[39]? = some (v4_) := by rw [ha]; exact putSel_on (e := (4, 39, v4_)) 2 rfl rfl (hon 4 (by kernel_rfl)) rfl
              have e41 : a.tmps[41]? = some (m6_) := by rw [ha]; exact putSel_on (e := (6, 41, m6_)) 4 rfl rfl (hon 6 (by kernel_rfl)) rfl
              rw [Q_X6_ (hon 6 (by kernel_rfl))] at e41
              replace ha := Aside0.mk ha
              have HB := Aside0.mk Q_HB
              have V4 := Aside0.mk (Q_V4 (hon 4 (by kernel_rfl)) hb_)
              have L6 := Aside0.mk (Q_L6 (hon 6 (by kernel_rfl)))
              have N0 := Aside0.mk (Q_N0 (hon 6 (by kernel_rfl)))
              have N4 := Aside0.mk (Q_N4 (hon 6 (by kernel_rfl)))
              have LT0 := Aside0.mk Q_LT0
              have LT4 := Aside0.mk Q_LT4
              obtain ⟨ys_, hy_, hy2_⟩ := V4.out
              have hlit_ := lit_C L6.out.1
              refine Kd.R_append_rows_step k25 (Rr := (k25).K w') (w0 := w9) w9.heap.size (by rfl) (.tmp 39) (.tmp 41) 74 25 (.agg #[.int .i64 0, .int .i64 0, .int .i64 0, .int .i64 0, .int .i64 0, .int .i64 0]) 48 rfl Tryd.underlying74 info25 rfl (by decide) (by decide) v4_ ys_ [(⟨x0, x1, x2, x3, x4, x5⟩ : S25)] (some ⟨g6_, 0, none⟩) 1 1 (fun _ => True) (fun _ => False) (eval_of e39) (eval_of e41) hy2_ hlit_ (fun x_ cs_ h_ => by obtain rfl := k25_open h_; exact k25_mkM _ _ _ _) (fun _ hk => hk.elim) (fun _ _ => trivial) HB.out HB.out.size (by have h_ := HN9.out; have h2_ := HKI.out; omega) ?_
              intro v1_ w1_ ho hb hg hat
              refine hK.out _ _ ⟨v0_, v4_, v1_, g6_, m6_, m8_, (by rw [ha.out]; exact putSel_upk 5 hb_ rfl rfl rfl), hb, fun _ h1_ => absurd ((hon 4 (by kernel_rfl)).symm.trans h1_) (by decide), fun _ h1_ => absurd ((up_self b 7).symm.trans h1_) (by decide), fun _ => ⟨_, by rw [List.length_append, hy_]; rfl, ho⟩, fun _ => ⟨blk_grown L6.out.1 hg N4.out, L6.out.2⟩, fun _ => N0.out, fun _ => N4.out, fun k_ h_ => Nat.lt_of_lt_of_le (LT0.out k_ h_) hg.size, fun k_ h_ => Nat.lt_of_lt_of_le (LT4.out k_ h_) hg.size, Q_X6_, fun h0_ => absurd ((hoff 8 (by kernel_rfl)).symm.trans h0_) (by decide)⟩
            refine steps_cons ?_ ?_
            · rintro b a w' ⟨v0_, v4_, v7_, g6_, m6_, m8_, ha, Q_HB, Q_V0, Q_V4, Q_V7, Q_L6, Q_N0, Q_N4, Q_LT0, Q_LT4, Q_X6_, Q_X8_⟩ hb_ hon hoff
              refine ⟨_, rfl, fun K hK => ?_⟩
              have e42 : a.tmps[42]? = some (v7_) := by rw [ha]; exact putSel_on (e := (7, 42, v7_)) 5 rfl rfl (hon 7 (by kernel_rfl)) rfl
              replace ha := Aside0.mk ha
              have HB := Aside0.mk Q_HB
              have V7 := Aside0.mk (Q_V7 (hon 7 (by kernel_rfl)))
              have L6 := Aside0.mk (Q_L6 (hon 6 (by kernel_rfl)))
              have N0 := Aside0.mk (Q_N0 (hon 6 (by kernel_rfl)))
              have N4 := Aside0.mk (Q_N4 (hon 6 (by kernel_rfl)))
              have LT0 := Aside0.mk Q_LT0
              have LT4 := Aside0.mk Q_LT4
              refine value_ (w1 := w') (v := v7_) (by rfl) rfl ?_ ?_
              · go_simp
                (try simp only [i64_w])
                try rfl
              refine hK.out _ _ ⟨v0_, v4_, v7_, g6_, m6_, (v7_), (by rw [ha.out]; exact putSel_upk 6 hb_ rfl rfl rfl), Q_HB, fun _ h1_ => absurd ((hon 4 (by kernel_rfl)).symm.trans h1_) (by decide), fun _ h1_ => absurd ((hon 7 (by kernel_rfl)).symm.trans h1_) (by decide), Q_V7, Q_L6, Q_N0, Q_N4, Q_LT0, Q_LT4, Q_X6_, fun _ => rfl⟩
            exact steps_nil
          · rintro b a w' hall ⟨v0_, v4_, v7_, g6_, m6_, m8_, ha, Q_HB, Q_V0, Q_V4, Q_V7, Q_L6, Q_N0, Q_N4, Q_LT0, Q_LT4, Q_X6_, Q_X8_⟩
            clear HB LT0 LT4
            have hb0_ := hall 0 (by kernel_rfl)
            have hb3_ := hall 3 (by kernel_rfl)
            have hb4_ := hall 4 (by kernel_rfl)
            have hb5_ := hall 5 (by kernel_rfl)
            have hb6_ := hall 6 (by kernel_rfl)
            have hb7_ := hall 7 (by kernel_rfl)
            have hb8_ := hall 8 (by kernel_rfl)
            subst ha
            obtain rfl := Q_X6_ hb6_
            obtain rfl := Q_X8_ hb8_
            simp only [putSel, hb0_, hb3_, hb4_, hb5_, hb6_, hb7_, hb8_, if_true, Act.put, List.setIfInBounds_toArray, List.set_cons_zero, List.set_cons_succ]
            have HB := Aside0.mk Q_HB
            clear Q_HB
            clear Q_V0
            clear Q_V4
            have V7 := Aside0.mk (Q_V7 hb7_)
            clear Q_V7
            have L6 := Aside0.mk (Q_L6 hb6_)
            clear Q_L6
            have N0 := Aside0.mk (Q_N0 hb6_)
            clear Q_N0
            have N4 := Aside0.mk (Q_N4 hb6_)
            clear Q_N4
            have LT0 := Aside0.mk Q_LT0
            clear Q_LT0
            have LT4 := Aside0.mk Q_LT4
            clear Q_LT4
            clear hall hb0_ hb3_ hb4_ hb5_ hb6_ hb7_ hb8_
            go_upto_region 10 with fail
            obtain ⟨ys, hy, hr7⟩ := V7.out
            have hlx := HL.out.1
            obtain ⟨A2, c2, hcut, hC2⟩ := cut_from (c := c5) (Kd.C_below HC5.out HB.out) HKL.out (by have := HL.out.2; omega)
            rw [hlx] at hcut hC2
            have HR7 := Go.Lib.hid hr7
            have HC2 := Go.Lib.hid hC2
            have HY := Go.Lib.hid hy
            have HBS := Go.Lib.hid H51.out.size
            have HB0S := Go.Lib.hid HB0.out.size
            have q2 : IntKind.i64.wrap ((i : Int) + 1) = ((i + 1 : Nat) : Int) := by rw [IntKind.wrap_i64]; have := HI.out; omega
            have hcut2 := hcut w'
            clear hr7 hC2 hy hlx hcut V7 L6 N0 N4 LT0 LT4
            go_wp2_with ((with_reducible refine gate_builtin (b := .append) (xs := #[.tmp 43, .tmp 46]) rfl ?_); at_builtin; refine Kd.R_append_rows k25 (Rr := k25.K w') (w0 := w9) w9.heap.size rfl (.tmp 43) (.tmp 46) 74 25 (.agg #[.int .i64 0, .int .i64 0, .int .i64 0, .int .i64 0, .int .i64 0, .int .i64 0]) 48 rfl Tryd.underlying74 info25 rfl (by decide) (by decide) _ ys (xs.drop k) A2 (i - k) c2 (fun _ => True) (fun _ => False) rfl rfl HR7.out HC2.out (fun x_ cs_ h_ => by obtain rfl := k25_open h_; exact k25_mkM _ _ _ _) (fun _ hk => hk.elim) (fun _ _ => trivial) HB.out HB.out.size (by have h_ := HN9.out; have h2_ := HKI.out; have h3_ := HY.out; omega) ?_; intro v8 w10 ho hb hg hat; have HO := Go.Lib.hid (And.intro ho hb); clear ho hb hg hat)
            exact ⟨⟨i + 1, by rw [Int.natCast_add]; rfl, HI.out, ⟨_, by rw [List.length_append, List.length_drop]; have h_ := HL.out.1; have h2_ := HY.out; have h3_ := HKI.out; omega, Kd.R_lower HO.out.1 (Nat.le_trans HB0S.out HBS.out)⟩, below_then H51.out H51.out.size HO.out.2⟩, by have h_ := HI.out; simp [intOf]; omega⟩
    · obtain rfl : i = 24 := by omega
      clear hro hb hi h24
      go_wp2_with fail
      go_ret
      exact ⟨_, rfl, HO.out, below_then HB0.out HB0.out.size HB1.out⟩
end Go.Proofs.YtfcifidjjbknaaaDoor.DiW
