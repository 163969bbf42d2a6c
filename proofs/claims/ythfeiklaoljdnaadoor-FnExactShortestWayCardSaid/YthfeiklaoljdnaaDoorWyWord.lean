/- The reference's word to a node, walked. Conditions: a list of no more than 1000000 nodes. -/
import Derived.Test.YthfeiklaoljdnaaDoorWyR
import Derived.OwnWalk
import Derived.Deep.LoopGhost
import Derived.Deep.QuietTactic
import Derived.BigQuiet
import Derived.Deep.CutBlock
import Derived.Deep.RegionHeld3
import Derived.Deep.RegionWith
import Derived.Deep.DeepCutAuto
import Derived.Lib.Hide
import Derived.Carry
import Derived.IntWalk
namespace Go.Proofs.YthfeiklaoljdnaaDoor.WyWord
open Go.RowKit Go.Proofs.YthfeiklaoljdnaaDoorW.PrintWords Go.Proofs.YthfeiklaoljdnaaDoorW.PrintLast Go.Proofs.YthfeiklaoljdnaaDoor.QBs Go.Proofs.YthfeiklaoljdnaaDoor.WyR
set_option linter.unusedVariables false
set_option linter.unusedSimpArgs false

abbrev SN := S69
abbrev dirsB : ByteArray := ⟨#[110, 101, 115, 119]⟩
def letter (d : Int) : ByteArray := if d = 0 then ⟨#[110]⟩ else if d = 1 then ⟨#[101]⟩ else if d = 2 then ⟨#[115]⟩ else ⟨#[119]⟩
theorem letter_size (d : Int) : (letter d).size = 1 := by
 unfold letter
 split
 ·rfl
 ·split
  ·rfl
  ·split <;> rfl
def back (l : List SN) : Nat → Int → ByteArray → Option ByteArray
 | 0, _, _ => none
 | k + 1, a, acc => if 0 ≤ a ∧ a < (l.length : Int) then (if 0 ≤ (rd_T69 l a).f3 then (if 0 ≤ (rd_T69 l a).f4 ∧ (rd_T69 l a).f4 < 4 then back l k (rd_T69 l a).f3 (letter (rd_T69 l a).f4 ++ acc) else none) else some acc) else none
theorem dirs_calls (w : World) : Calls Tryd.prog 62 #[] w fun e w' => e = .returned (.string dirsB) ∧ Below w.heap.size w w' := by
 go_enter Tryd.func62, Tryd.ntmps62
 go_wp2_with fail
 go_ret
 exact ⟨rfl, Below.refl _ _⟩
theorem cell10 {w : World} {ad : Addr} {l : List SN} (h : Kd.C kNd w (some ad) l.length l) (a : Int) (h0 : 0 ≤ a) (h1 : a < (l.length : Int)) : w.cell? ⟨(ad.add (a.toNat * 16)).block, (ad.add (a.toNat * 16)).off + 10, none⟩ = some (.int .i64 (rd_T69 l a).f3) := by
 obtain ⟨ad', e0, _, _, _, _, _, _, _, _, _, _, hx, _, _, _, _, _⟩ := at_T69 h a h0 h1
 injection e0 with e0
 subst e0
 exact hx
theorem cell11 {w : World} {ad : Addr} {l : List SN} (h : Kd.C kNd w (some ad) l.length l) (a : Int) (h0 : 0 ≤ a) (h1 : a < (l.length : Int)) : w.cell? ⟨(ad.add (a.toNat * 16)).block, (ad.add (a.toNat * 16)).off + 11, none⟩ = some (.int .i64 (rd_T69 l a).f4) := by
 obtain ⟨ad', e0, _, _, _, _, _, _, _, _, _, _, _, hx, _, _, _, _⟩ := at_T69 h a h0 h1
 injection e0 with e0
 subst e0
 exact hx
theorem slice_dir (d : Int) (hd : 0 ≤ d ∧ d < 4) (W : World) : (Instr.slice 9 (.string dirsB) (some (.int .i64 d)) (some (.int .i64 (IntKind.i64.wrap (d + 1)))) none).run Tryd.prog W = .ok (.string (letter d)) W := by
 have : d = 0 ∨ d = 1 ∨ d = 2 ∨ d = 3 := by omega
 rcases this with rfl | rfl | rfl | rfl
 ·rw [show IntKind.i64.wrap (0 + 1) = 1 from by decide]; go_simp; rfl
 ·rw [show IntKind.i64.wrap (1 + 1) = 2 from by decide]; go_simp; rfl
 ·rw [show IntKind.i64.wrap (2 + 1) = 3 from by decide]; go_simp; rfl
 ·rw [show IntKind.i64.wrap (3 + 1) = 4 from by decide]; go_simp; rfl
def wyw.T3 : Bool × List (List Nat × List Nat) := (true, [([], []), ([], []), ([], []), ([1, 2], [1, 2]), ([3], [3]), ([4], [4]), ([], []), ([], []), ([6, 7], [6, 7]), ([8], [8]), ([9], [9]), ([10], [10]), ([0, 5, 11], [0, 5, 11]), ([], []), ([12, 13], [12, 13]), ([14, 0, 0, 1, 2, 3, 4, 5, 6, 7, 8, 9, 10, 11, 12, 13, 14], [13, 14])])
def wyw.B3 : List Nat := [0, 0, 0, 6, 14, 30, 0, 0, 192, 448, 960, 1984, 4095, 0, 16383, 32767]
theorem wyw.tab3 : rtab .any (opsOf Tryd.f39 3) = wyw.T3 := by kernel_rfl
theorem wyw.bits3 : waitsOk wyw.T3.2 wyw.B3 = true := by kernel_rfl
def sizeOf : Value → Nat
 | .string b => b.size
 | _ => 0
set_option maxHeartbeats 4000000 in
set_option maxRecDepth 100000 in
theorem word_walk (A0 : Option Addr) (c0 : Nat) (l : List SN) (a0 : Int) (r : ByteArray) (w : World) (hr0 : Kd.C kNd w A0 l.length l) (hc0 : l.length ≤ c0) (hl : l.length ≤ 1000000) (h : back l (l.length + 1) a0 ⟨#[]⟩ = some r) :
  Calls Tryd.prog 39 #[.slice A0 l.length c0, .int .i64 a0] w fun e w' => e = .returned (.string r) ∧ Below w.heap.size w w' := by
 obtain ⟨ad, rfl⟩ : ∃ ad, A0 = some ad := by
  unfold back at h
  by_cases hc : 0 ≤ a0 ∧ a0 < (l.length : Int)
  ·obtain ⟨ad, e, _⟩ := at_T69 hr0 a0 hc.1 hc.2
   exact ⟨ad, e⟩
  ·rw [if_neg hc] at h
   cases h
 have HC0 := Go.Lib.hid hr0
 have HL := Go.Lib.hid hl
 have H0 := Go.Lib.hid h
 clear hr0 hc0 hl h
 go_enter Tryd.func39, Tryd.ntmps39
 go_wp2_with fail
 go_loopw [1, 5] (fun v1 v5 wr => ∃ (k : Nat) (ix : Int) (acc : ByteArray), v1 = .int .i64 ix ∧ v5 = .string acc ∧ back l k ix acc = some r ∧ acc.size + k = l.length + 1 ∧ Kd.C kNd wr (some ad) l.length l ∧ Below w.heap.size w wr) (fun v1 v5 _ => l.length + 1 - sizeOf v5)
 case atStart => exact ⟨l.length + 1, a0, ⟨#[]⟩, rfl, rfl, H0.out, by show 0 + _ = _; omega, HC0.out, Below.refl _ _⟩
 case round =>
  clear HC0 H0
  obtain ⟨k, ix, acc, rfl, rfl, hb, hsz, hC, hB⟩ := hrel
  cases k with
  | zero => cases hb
  | succ k =>
   unfold back at hb
   by_cases hc : 0 ≤ ix ∧ ix < (l.length : Int)
   ·rw [if_pos hc] at hb
    have HA := Go.Lib.hid hc
    have HC := Go.Lib.hid hC
    have HB := Go.Lib.hid hB
    have hx10 := cell10 hC ix hc.1 hc.2
    have hk0 : 0 ≤ ix := hc.1
    have hk1 : ix < (l.length : Int) := hc.2
    obtain ⟨f, hf⟩ : ∃ f, f = (rd_T69 l ix).f3 := ⟨_, rfl⟩
    rw [← hf] at hx10 hb
    have HF := Go.Lib.hid hf
    clear hc hC hB hf
    by_cases h3 : 0 ≤ f
    ·rw [if_pos h3] at hb
     obtain ⟨dx, hd⟩ : ∃ dx, dx = (rd_T69 l ix).f4 := ⟨_, rfl⟩
     rw [← hd] at hb
     by_cases h4 : 0 ≤ dx ∧ dx < 4
     ·rw [if_pos h4] at hb
      have HDR := Go.Lib.hid hd.symm
      have HD := Go.Lib.hid h4
      have HBK := Go.Lib.hid hb
      have HSZ := Go.Lib.hid (show (letter dx).size + acc.size ≤ 9223372036854775807 by rw [letter_size]; have := HL.out; omega)
      have HSK := Go.Lib.hid hsz
      have h3d : decide (0 ≤ f) = true := decide_eq_true h3
      have h3e : decide (f < 0) = false := decide_eq_false (by omega)
      clear hd hb h4 hsz
      go_upto_region 3 with fail
      refine start_ (n := 16) (S := fun w' => True) (ds := []) #[false, false, false, false, false, false, false, false, false, false, false, false, false, false, false, false] (by kernel_rfl) rfl rfl trivial (fun hHeld => ?_)
      refine with_tabW wyw.tab3 wyw.bits3 (fun HT_ HW_ => ?_)
      have n_HC := Go.Lib.hid (Kd.C_drew HC.out)
      have n_HB := Go.Lib.hid (below_drew HB.out)
      clear HC HB
      have HC := n_HC
      have HB := n_HB
      clear n_HC n_HB
      generalize World.drew _ = w3 at HC HB hHeld ⊢
      refine pure_ (i := 1) (N := some 13) (v := ?_) (a' := ?_) #[false, true, false, false, false, false, false, false, false, false, false, false, false, false, false, false] rfl rfl (any_of HT_.out (by kernel_rfl)) (fun _ _ _ h => h) (Or.inl ⟨by rfl, ?_⟩) ?_ ?_
      rotate_left
      ·intro w'
       go_simp
       with_reducible rfl
      rotate_left
      ·simp only [Act.put, List.setIfInBounds_toArray, List.set_cons_zero, List.set_cons_succ, i64_w, i32_w]
       rfl
      refine pure_ (i := 2) (N := some 14) (v := ?_) (a' := ?_) #[false, true, true, false, false, false, false, false, false, false, false, false, false, false, false, false] rfl rfl (any_of HT_.out (by kernel_rfl)) (fun _ _ _ h => h) (Or.inl ⟨by rfl, ?_⟩) ?_ ?_
      rotate_left
      ·intro w'
       go_simp
       with_reducible rfl
      rotate_left
      ·simp only [Act.put, List.setIfInBounds_toArray, List.set_cons_zero, List.set_cons_succ, i64_w, i32_w]
       rfl
      refine pure_ (i := 6) (N := some 18) (v := ?_) (a' := ?_) #[false, true, true, false, false, false, true, false, false, false, false, false, false, false, false, false] rfl rfl (any_of HT_.out (by kernel_rfl)) (fun _ _ _ h => h) (Or.inl ⟨by rfl, ?_⟩) ?_ ?_
      rotate_left
      ·intro w'
       go_simp
       with_reducible rfl
      rotate_left
      ·simp only [Act.put, List.setIfInBounds_toArray, List.set_cons_zero, List.set_cons_succ, i64_w, i32_w]
       rfl
      refine pure_ (i := 7) (N := some 19) (v := ?_) (a' := ?_) #[false, true, true, false, false, false, true, true, false, false, false, false, false, false, false, false] rfl rfl (any_of HT_.out (by kernel_rfl)) (fun _ _ _ h => h) (Or.inl ⟨by rfl, ?_⟩) ?_ ?_
      rotate_left
      ·intro w'
       go_simp
       with_reducible rfl
      rotate_left
      ·simp only [Act.put, List.setIfInBounds_toArray, List.set_cons_zero, List.set_cons_succ, i64_w, i32_w]
       rfl
      refine pure_ (i := 13) (N := some 25) (v := ?_) (a' := ?_) #[false, true, true, false, false, false, true, true, false, false, false, false, false, true, false, false] rfl rfl (any_of HT_.out (by kernel_rfl)) (fun _ _ _ h => h) (Or.inl ⟨by rfl, ?_⟩) ?_ ?_
      rotate_left
      ·intro w'
       go_simp
       with_reducible rfl
      rotate_left
      ·simp only [Act.put, List.setIfInBounds_toArray, List.set_cons_zero, List.set_cons_succ, i64_w, i32_w]
       rfl
      refine inv_at [0, 3, 4, 5, 8, 9, 10, 11, 12, 14, 15] (fun a0_ b a w' => a = putSel a0_ b [(0, 12, .string dirsB), (3, 15, .pointer (some (ad.add (ix.toNat * 16)))), (4, 16, .pointer (some ⟨(ad.add (ix.toNat * 16)).block, (ad.add (ix.toNat * 16)).off + 11, none⟩)), (5, 17, .int .i64 dx), (8, 20, .pointer (some (ad.add (ix.toNat * 16)))), (9, 21, .pointer (some ⟨(ad.add (ix.toNat * 16)).block, (ad.add (ix.toNat * 16)).off + 11, none⟩)), (10, 22, .int .i64 dx), (11, 23, .int .i64 (IntKind.i64.wrap (dx + 1))), (12, 24, .string (letter dx)), (14, 26, .string (letter dx ++ acc)), (15, 5, .string (letter dx ++ acc))] ∧ (Kd.C kNd w' (some ad) l.length l) ∧ (Below w.heap.size w w')) HT_.out HW_.out (by kernel_rfl) (by kernel_rfl) ?_ ?_ ?_
      ·exact ⟨by simp only [putSel, Bool.false_eq_true, if_false], HC.out, HB.out⟩
      ·skip
       clear HB HC
       refine steps_cons ?_ ?_
       ·rintro b a w' ⟨ha, Q_HC, Q_HB⟩ hb_ hon hoff
        refine ⟨_, rfl, fun K hK => ?_⟩
        replace ha := Aside0.mk ha
        have HC := Aside0.mk Q_HC
        have HB := Aside0.mk Q_HB
        refine call_ 62 #[] (by rfl) rfl ?_ ?_
        ·go_simp
         (try rfl)
        with_reducible refine (dirs_calls w').mono ?_
        rintro e' w1 ⟨rfl, hb⟩
        refine ⟨_, rfl, ?_⟩
        refine hK.out _ _ ⟨(by rw [ha.out]; exact putSel_upk 0 hb_ rfl rfl rfl), Kd.C_below HC.out hb, below_then HB.out HB.out.size hb⟩
       refine steps_cons ?_ ?_
       ·rintro b a w' ⟨ha, Q_HC, Q_HB⟩ hb_ hon hoff
        refine ⟨_, rfl, fun K hK => ?_⟩
        have e13 : a.tmps[13]? = some (.slice (some ad) l.length c0) := by rw [ha]; exact (putSel_off rfl).trans rfl
        have e14 : a.tmps[14]? = some (.int .i64 ix) := by rw [ha]; exact (putSel_off rfl).trans rfl
        replace ha := Aside0.mk ha
        have HC := Aside0.mk Q_HC
        have HB := Aside0.mk Q_HB
        have hk0_ : 0 ≤ ix := HA.out.1
        have hk1_ : ix < (l.length : Int) := HA.out.2
        refine value_ (w1 := w') (v := .pointer (some (ad.add (ix.toNat * 16)))) (by rfl) rfl ?_ ?_
        ·go_simp
         (try simp only [i64_w])
         try rfl
        refine hK.out _ _ ⟨(by rw [ha.out]; exact putSel_upk 1 hb_ rfl rfl rfl), Q_HC, Q_HB⟩
       refine steps_cons ?_ ?_
       ·rintro b a w' ⟨ha, Q_HC, Q_HB⟩ hb_ hon hoff
        refine ⟨_, rfl, fun K hK => ?_⟩
        have e15 : a.tmps[15]? = some (.pointer (some (ad.add (ix.toNat * 16)))) := by rw [ha]; exact putSel_on (e := (3, 15, .pointer (some (ad.add (ix.toNat * 16))))) 1 rfl rfl (hon 3 (by kernel_rfl)) rfl
        replace ha := Aside0.mk ha
        have HC := Aside0.mk Q_HC
        have HB := Aside0.mk Q_HB
        refine value_ (w1 := w') (v := .pointer (some ⟨(ad.add (ix.toNat * 16)).block, (ad.add (ix.toNat * 16)).off + 11, none⟩)) (by rfl) rfl ?_ ?_
        ·go_simp
         (try simp only [i64_w])
         try rfl
        refine hK.out _ _ ⟨(by rw [ha.out]; exact putSel_upk 2 hb_ rfl rfl rfl), Q_HC, Q_HB⟩
       refine steps_cons ?_ ?_
       ·rintro b a w' ⟨ha, Q_HC, Q_HB⟩ hb_ hon hoff
        refine ⟨_, rfl, fun K hK => ?_⟩
        have e16 : a.tmps[16]? = some (.pointer (some ⟨(ad.add (ix.toNat * 16)).block, (ad.add (ix.toNat * 16)).off + 11, none⟩)) := by rw [ha]; exact putSel_on (e := (4, 16, .pointer (some ⟨(ad.add (ix.toNat * 16)).block, (ad.add (ix.toNat * 16)).off + 11, none⟩))) 2 rfl rfl (hon 4 (by kernel_rfl)) rfl
        replace ha := Aside0.mk ha
        have HC := Aside0.mk Q_HC
        have HB := Aside0.mk Q_HB
        have hc11_ := cell11 HC.out ix HA.out.1 HA.out.2
        rw [HDR.out] at hc11_
        refine value_ (w1 := w') (v := .int .i64 dx) (by rfl) rfl ?_ ?_
        ·go_simp
         (try simp only [i64_w])
         try rfl
        refine hK.out _ _ ⟨(by rw [ha.out]; exact putSel_upk 3 hb_ rfl rfl rfl), Q_HC, Q_HB⟩
       refine steps_cons ?_ ?_
       ·rintro b a w' ⟨ha, Q_HC, Q_HB⟩ hb_ hon hoff
        refine ⟨_, rfl, fun K hK => ?_⟩
        have e18 : a.tmps[18]? = some (.slice (some ad) l.length c0) := by rw [ha]; exact (putSel_off rfl).trans rfl
        have e19 : a.tmps[19]? = some (.int .i64 ix) := by rw [ha]; exact (putSel_off rfl).trans rfl
        replace ha := Aside0.mk ha
        have HC := Aside0.mk Q_HC
        have HB := Aside0.mk Q_HB
        have hk0_ : 0 ≤ ix := HA.out.1
        have hk1_ : ix < (l.length : Int) := HA.out.2
        refine value_ (w1 := w') (v := .pointer (some (ad.add (ix.toNat * 16)))) (by rfl) rfl ?_ ?_
        ·go_simp
         (try simp only [i64_w])
         try rfl
        refine hK.out _ _ ⟨(by rw [ha.out]; exact putSel_upk 4 hb_ rfl rfl rfl), Q_HC, Q_HB⟩
       refine steps_cons ?_ ?_
       ·rintro b a w' ⟨ha, Q_HC, Q_HB⟩ hb_ hon hoff
        refine ⟨_, rfl, fun K hK => ?_⟩
        have e20 : a.tmps[20]? = some (.pointer (some (ad.add (ix.toNat * 16)))) := by rw [ha]; exact putSel_on (e := (8, 20, .pointer (some (ad.add (ix.toNat * 16))))) 4 rfl rfl (hon 8 (by kernel_rfl)) rfl
        replace ha := Aside0.mk ha
        have HC := Aside0.mk Q_HC
        have HB := Aside0.mk Q_HB
        refine value_ (w1 := w') (v := .pointer (some ⟨(ad.add (ix.toNat * 16)).block, (ad.add (ix.toNat * 16)).off + 11, none⟩)) (by rfl) rfl ?_ ?_
        ·go_simp
         (try simp only [i64_w])
         try rfl
        refine hK.out _ _ ⟨(by rw [ha.out]; exact putSel_upk 5 hb_ rfl rfl rfl), Q_HC, Q_HB⟩
       refine steps_cons ?_ ?_
       ·rintro b a w' ⟨ha, Q_HC, Q_HB⟩ hb_ hon hoff
        refine ⟨_, rfl, fun K hK => ?_⟩
        have e21 : a.tmps[21]? = some (.pointer (some ⟨(ad.add (ix.toNat * 16)).block, (ad.add (ix.toNat * 16)).off + 11, none⟩)) := by rw [ha]; exact putSel_on (e := (9, 21, .pointer (some ⟨(ad.add (ix.toNat * 16)).block, (ad.add (ix.toNat * 16)).off + 11, none⟩))) 5 rfl rfl (hon 9 (by kernel_rfl)) rfl
        replace ha := Aside0.mk ha
        have HC := Aside0.mk Q_HC
        have HB := Aside0.mk Q_HB
        have hc11_ := cell11 HC.out ix HA.out.1 HA.out.2
        rw [HDR.out] at hc11_
        refine value_ (w1 := w') (v := .int .i64 dx) (by rfl) rfl ?_ ?_
        ·go_simp
         (try simp only [i64_w])
         try rfl
        refine hK.out _ _ ⟨(by rw [ha.out]; exact putSel_upk 6 hb_ rfl rfl rfl), Q_HC, Q_HB⟩
       refine steps_cons ?_ ?_
       ·rintro b a w' ⟨ha, Q_HC, Q_HB⟩ hb_ hon hoff
        refine ⟨_, rfl, fun K hK => ?_⟩
        have e22 : a.tmps[22]? = some (.int .i64 dx) := by rw [ha]; exact putSel_on (e := (10, 22, .int .i64 dx)) 6 rfl rfl (hon 10 (by kernel_rfl)) rfl
        replace ha := Aside0.mk ha
        have HC := Aside0.mk Q_HC
        have HB := Aside0.mk Q_HB
        refine value_ (w1 := w') (v := .int .i64 (IntKind.i64.wrap (dx + 1))) (by rfl) rfl ?_ ?_
        ·go_simp
         (try simp only [i64_w])
         try rfl
        refine hK.out _ _ ⟨(by rw [ha.out]; exact putSel_upk 7 hb_ rfl rfl rfl), Q_HC, Q_HB⟩
       refine steps_cons ?_ ?_
       ·rintro b a w' ⟨ha, Q_HC, Q_HB⟩ hb_ hon hoff
        refine ⟨_, rfl, fun K hK => ?_⟩
        have e12 : a.tmps[12]? = some (.string dirsB) := by rw [ha]; exact putSel_on (e := (0, 12, .string dirsB)) 0 rfl rfl (hon 0 (by kernel_rfl)) rfl
        have e17 : a.tmps[17]? = some (.int .i64 dx) := by rw [ha]; exact putSel_on (e := (5, 17, .int .i64 dx)) 3 rfl rfl (hon 5 (by kernel_rfl)) rfl
        have e23 : a.tmps[23]? = some (.int .i64 (IntKind.i64.wrap (dx + 1))) := by rw [ha]; exact putSel_on (e := (11, 23, .int .i64 (IntKind.i64.wrap (dx + 1)))) 7 rfl rfl (hon 11 (by kernel_rfl)) rfl
        replace ha := Aside0.mk ha
        have HC := Aside0.mk Q_HC
        have HB := Aside0.mk Q_HB
        have hsl_ := slice_dir dx HD.out w'
        refine value_ (w1 := w') (v := .string (letter dx)) (by rfl) rfl ?_ ?_
        ·go_simp
         (try simp only [i64_w])
         try rfl
        refine hK.out _ _ ⟨(by rw [ha.out]; exact putSel_upk 8 hb_ rfl rfl rfl), Q_HC, Q_HB⟩
       refine steps_cons ?_ ?_
       ·rintro b a w' ⟨ha, Q_HC, Q_HB⟩ hb_ hon hoff
        refine ⟨_, rfl, fun K hK => ?_⟩
        have e24 : a.tmps[24]? = some (.string (letter dx)) := by rw [ha]; exact putSel_on (e := (12, 24, .string (letter dx))) 8 rfl rfl (hon 12 (by kernel_rfl)) rfl
        have e25 : a.tmps[25]? = some (.string acc) := by rw [ha]; exact (putSel_off rfl).trans rfl
        replace ha := Aside0.mk ha
        have HC := Aside0.mk Q_HC
        have HB := Aside0.mk Q_HB
        have hsz_ : (letter dx).size + acc.size ≤ 9223372036854775807 := HSZ.out
        refine value_ (w1 := w') (v := .string (letter dx ++ acc)) (by rfl) rfl ?_ ?_
        ·go_simp
         (try simp only [i64_w])
         try rfl
        refine hK.out _ _ ⟨(by rw [ha.out]; exact putSel_upk 9 hb_ rfl rfl rfl), Q_HC, Q_HB⟩
       refine steps_cons ?_ ?_
       ·rintro b a w' ⟨ha, Q_HC, Q_HB⟩ hb_ hon hoff
        refine ⟨_, rfl, fun K hK => ?_⟩
        have e26 : a.tmps[26]? = some (.string (letter dx ++ acc)) := by rw [ha]; exact putSel_on (e := (14, 26, .string (letter dx ++ acc))) 9 rfl rfl (hon 14 (by kernel_rfl)) rfl
        replace ha := Aside0.mk ha
        have HC := Aside0.mk Q_HC
        have HB := Aside0.mk Q_HB
        refine value_ (w1 := w') (v := .string (letter dx ++ acc)) (by rfl) rfl ?_ ?_
        ·go_simp
         (try simp only [i64_w])
         try rfl
        refine hK.out _ _ ⟨(by rw [ha.out]; exact putSel_upk 10 hb_ rfl rfl rfl), Q_HC, Q_HB⟩
       exact steps_nil
      ·rintro b a w' hall ⟨ha, Q_HC, Q_HB⟩
       clear HB HC
       have hb0_ := hall 0 (by kernel_rfl)
       have hb3_ := hall 3 (by kernel_rfl)
       have hb4_ := hall 4 (by kernel_rfl)
       have hb5_ := hall 5 (by kernel_rfl)
       have hb8_ := hall 8 (by kernel_rfl)
       have hb9_ := hall 9 (by kernel_rfl)
       have hb10_ := hall 10 (by kernel_rfl)
       have hb11_ := hall 11 (by kernel_rfl)
       have hb12_ := hall 12 (by kernel_rfl)
       have hb14_ := hall 14 (by kernel_rfl)
       have hb15_ := hall 15 (by kernel_rfl)
       subst ha
       simp only [putSel, hb0_, hb3_, hb4_, hb5_, hb8_, hb9_, hb10_, hb11_, hb12_, hb14_, hb15_, if_true, Act.put, List.setIfInBounds_toArray, List.set_cons_zero, List.set_cons_succ]
       have HC := Aside0.mk Q_HC
       clear Q_HC
       have HB := Aside0.mk Q_HB
       clear Q_HB
       clear hall hb0_ hb3_ hb4_ hb5_ hb8_ hb9_ hb10_ hb11_ hb12_ hb14_ hb15_
       have hx := cell10 HC.out ix hk0 hk1
       rw [← HF.out] at hx
       go_wp2_with fail
       go_roundw
       case rel => exact ⟨k, f, letter dx ++ acc, rfl, rfl, HBK.out, by rw [ByteArray.size_append, letter_size]; have := HSK.out; omega, HC.out, HB.out⟩
       case measure =>
        have := HSK.out
        simp only [sizeOf, ByteArray.size_append, letter_size]
        omega
     ·rw [if_neg h4] at hb
      cases hb
    ·rw [if_neg h3] at hb
     obtain rfl := Option.some.inj hb
     have h3d : decide (0 ≤ f) = false := decide_eq_false h3
     have h3e : decide (f < 0) = true := decide_eq_true (by omega)
     clear hb
     go_wp2_with fail
     go_ret
     exact ⟨rfl, HB.out⟩
   ·rw [if_neg hc] at hb
    cases hb
end Go.Proofs.YthfeiklaoljdnaaDoor.WyWord
