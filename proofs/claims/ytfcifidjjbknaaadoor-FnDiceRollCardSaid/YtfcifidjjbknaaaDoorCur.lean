/- The reference's cursor over drawn bytes: what its calls leave of it. Conditions: a code of bytes. -/
import Derived.Test.YtfcifidjjbknaaaDoorWOne
import Derived.Test.YtfcifidjjbknaaaDoorRows
import Derived.OwnWalk
import Derived.Lib.Hide
import Derived.Deep.QuietTactic
import Derived.BigQuiet
import Derived.Laws.BitsLemmas
namespace Go.Proofs.YtfcifidjjbknaaaDoor.Cur
open Go.RowKit Go.Proofs.YtfcifidjjbknaaaDoorW.PrintWords
set_option linter.unusedVariables false
set_option linter.unusedSimpArgs false

/-- The cursor's block: the code, the place (at most n), the seed; what was there before the cursor stays. -/
structure CB (w0 W : World) (g : Nat) (cs : List Int) (n : Nat) : Prop where
  blk : ∃ (A0 : Option Addr) (c0 a : Nat) (sd : Int), a ≤ n ∧ W.heap[g]? = some (.cells #[.slice A0 cs.length c0, .int .i64 (a : Int), .int .u64 sd] 42 (0, 0)) ∧ Kd.C (Kd.int .u8) w0 A0 cs.length cs
  big : w0.heap.size ≤ g
  bel : Below w0.heap.size w0 W
  bytes : (∀ b ∈ cs, 0 ≤ b ∧ b < 256) ∧ cs.length ≤ 1048576
theorem CB.mono {w0 W : World} {g : Nat} {cs : List Int} {n m : Nat} (h : CB w0 W g cs n) (hm : n ≤ m) : CB w0 W g cs m := by
  obtain ⟨A0, c0, a, sd, ha, hb⟩ := h.blk
  exact ⟨⟨A0, c0, a, sd, Nat.le_trans ha hm, hb⟩, h.big, h.bel, h.bytes⟩
theorem CB.below {w0 W W1 : World} {g : Nat} {cs : List Int} {n : Nat} (h : CB w0 W g cs n) (hb : Below W.heap.size W W1) : CB w0 W1 g cs n := by
  obtain ⟨A0, c0, a, sd, ha, hk, hr⟩ := h.blk
  exact ⟨⟨A0, c0, a, sd, ha, blk_below hk hb, hr⟩, h.big, below_then h.bel h.bel.size hb, h.bytes⟩
theorem CB.alloc {w0 W : World} {g : Nat} {cs : List Int} {n : Nat} (h : CB w0 W g cs n) (o : Obj) : CB w0 (W.alloc o) g cs n := h.below ((Below.refl _ W).alloc (Nat.le_refl _) o)
theorem CB.drew {w0 W : World} {g : Nat} {cs : List Int} {n : Nat} (h : CB w0 W g cs n) : CB w0 W.drew g cs n := by
  obtain ⟨A0, c0, a, sd, ha, hk, hr⟩ := h.blk
  exact ⟨⟨A0, c0, a, sd, ha, blk_drew hk, hr⟩, h.big, below_drew h.bel, h.bytes⟩
theorem CB.drewN {w0 W : World} {g : Nat} {cs : List Int} {n : Nat} (h : CB w0 W g cs n) (m : Nat) : CB w0 (W.drewN m) g cs n := by
  obtain ⟨A0, c0, a, sd, ha, hk, hr⟩ := h.blk
  exact ⟨⟨A0, c0, a, sd, ha, blk_drewN hk m, hr⟩, h.big, pw_below_drewN h.bel m, h.bytes⟩
def Step (w0 W : World) (g : Nat) (cs : List Int) (n : Nat) (w' : World) : Prop := CB w0 w' g cs n ∧ KeepBut W w' g none
theorem keep_blk {W W1 : World} {g k : Nat} {o : Obj} (h : KeepBut W W1 g none) (hb : W.heap[k]? = some o) (hk : k ≠ g) : W1.heap[k]? = some o := by
  rw [h.2 k (Array.getElem?_eq_some_iff.1 hb).1 hk (by simp)]
  exact hb
theorem rd_byte {cs : List Int} (h : ∀ b ∈ cs, 0 ≤ b ∧ b < 256) {a : Nat} (ha : a < cs.length) : ∃ b, rd cs (a : Int) = b ∧ 0 ≤ b ∧ b < 256 := by
  refine ⟨_, rfl, ?_⟩
  unfold rd
  rw [Int.toNat_natCast]
  exact h _ (by simp [List.getD, ha])
theorem cell1 {W : World} {g : Nat} {x y z : Value} (h : W.heap[g]? = some (.cells #[x, y, z] 42 (0, 0))) (v : Value) : (W.setCell ⟨g, 1, none⟩ v).heap[g]? = some (.cells #[x, v, z] 42 (0, 0)) := by simpa using blk_set h 1 v
theorem cell2 {W : World} {g : Nat} {x y z : Value} (h : W.heap[g]? = some (.cells #[x, y, z] 42 (0, 0))) (v : Value) : (W.setCell ⟨g, 2, none⟩ v).heap[g]? = some (.cells #[x, y, v] 42 (0, 0)) := by simpa using blk_set h 2 v
theorem stepped {w0 W W1 : World} {g : Nat} {cs : List Int} {n : Nat} {A0 : Option Addr} {c0 a : Nat} {sd : Int} (h : CB w0 W g cs n) (ha : a ≤ n) (hr : Kd.C (Kd.int .u8) w0 A0 cs.length cs) (hb : W1.heap[g]? = some (.cells #[.slice A0 cs.length c0, .int .i64 ((a : Int) + 1), .int .u64 sd] 42 (0, 0))) (hl : Below w0.heap.size w0 W1) (hk : KeepBut W W1 g none) : Step w0 W g cs (n + 1) W1 :=
  ⟨⟨⟨A0, c0, a + 1, sd, Nat.succ_le_succ ha, hb, hr⟩, h.big, hl, h.bytes⟩, hk⟩
theorem shr_mask (x : Int) : 0 ≤ wrap64 (bits .and .u64 (IntKind.u64.wrap x / 1099511627776) 255) ∧ wrap64 (bits .and .u64 (IntKind.u64.wrap x / 1099511627776) 255) < 256 := by
  have h := bits_mask .u64 24 (by decide) (fun n h0 h1 => by simp [IntKind.wrap, IntKind.bits, IntKind.signed]; omega) 8 (by decide) (IntKind.u64.wrap x / 1099511627776) (by simp [IntKind.wrap, IntKind.bits, IntKind.signed]; omega) (by simp [IntKind.wrap, IntKind.bits, IntKind.signed]; omega)
  have e : ((2 : Int) ^ 8 - 1) = 255 := by decide
  rw [e] at h
  rw [h]
  unfold wrap64
  omega
set_option maxHeartbeats 4000000 in
set_option maxRecDepth 100000 in
theorem next_walk (g : Nat) (cs : List Int) (n : Nat) (w0 W : World) (h : CB w0 W g cs n) (hn : n < 1000000000) : Calls Tryd.prog 55 #[.pointer (some ⟨g, 0, none⟩)] W fun e w' =>
    ∃ b : Int, e = .returned (.int .i64 b) ∧ 0 ≤ b ∧ b < 256 ∧ Step w0 W g cs (n + 1) w' := by
  obtain ⟨A0, c0, a, sd, ha, hb, hr⟩ := h.blk
  have HH := Go.Lib.hid h
  have HR := Go.Lib.hid hr
  have HA := Go.Lib.hid ha
  have HB := Go.Lib.hid hb
  have c0_ : W.cell? ⟨g, 0, none⟩ = some (.slice A0 cs.length c0) := blk_cell hb 0
  have c1_ : W.cell? ⟨g, 1, none⟩ = some (.int .i64 (a : Int)) := blk_cell hb 1
  have c2_ : W.cell? ⟨g, 2, none⟩ = some (.int .u64 sd) := blk_cell hb 2
  have f1_ := blk_frozen hb 1
  have f2_ := blk_frozen hb 2
  have hw : IntKind.i64.wrap ((a : Int) + 1) = ((a + 1 : Nat) : Int) := by rw [IntKind.wrap_i64]; omega
  have HL := Go.Lib.hid h.bytes.2
  have HN := Go.Lib.hid hn
  by_cases hlt : a < cs.length
  · obtain ⟨b, hb1, hb2⟩ := rd_byte h.bytes.1 hlt
    obtain ⟨ad, rfl, hx⟩ := Kd.at_int hr (a : Int) (by omega) (by omega)
    rw [hb1] at hx
    have hx := pw_cell_below h.bel hx
    rw [Int.toNat_natCast] at hx
    have q0 : (0 : Int) ≤ (a : Int) := by omega
    have q1 : (a : Int) < (cs.length : Int) := by omega
    have q2 : ((a + 1 : Nat) : Int) ≤ (cs.length : Int) := by omega
    have HB2 := Go.Lib.hid hb2
    clear h hr ha hb hlt hb1 hb2 hn
    go_enter Tryd.func55, Tryd.ntmps55
    go_wp2_with fail
    repeat (go_quiet (fail); try go_wp2)
    go_ret
    have hb2 := HB2.out
    refine ⟨wrap64 b, rfl, by unfold wrap64; omega, by unfold wrap64; omega, ?_⟩
    apply stepped HH.out HA.out HR.out
    · repeat (first | with_reducible exact HB.out | with_reducible apply blk_drewN | with_reducible apply blk_drew | with_reducible apply cell2 | with_reducible apply cell1)
    · repeat (first | with_reducible exact HH.out.bel | with_reducible apply pw_below_drewN | with_reducible apply below_drew | refine below_set ?_ HH.out.big)
    · repeat (first | exact KeepBut.refl W g none | with_reducible apply keep_drewN | with_reducible apply keep_drew | with_reducible apply KeepBut.set_)
  · have q1 : ¬ (a : Int) < (cs.length : Int) := by omega
    have q2 : ¬ ((a + 1 : Nat) : Int) ≤ (cs.length : Int) := by omega
    clear h hr ha hb hlt hn
    go_enter Tryd.func55, Tryd.ntmps55
    go_wp2_with fail
    repeat (go_quiet (fail); try go_wp2)
    go_ret
    refine ⟨_, rfl, (shr_mask _).1, (shr_mask _).2, ?_⟩
    apply stepped HH.out HA.out HR.out
    · repeat (first | with_reducible exact HB.out | with_reducible apply blk_drewN | with_reducible apply blk_drew | with_reducible apply cell2 | with_reducible apply cell1)
    · repeat (first | with_reducible exact HH.out.bel | with_reducible apply pw_below_drewN | with_reducible apply below_drew | refine below_set ?_ HH.out.big)
    · repeat (first | exact KeepBut.refl W g none | with_reducible apply keep_drewN | with_reducible apply keep_drew | with_reducible apply KeepBut.set_)
theorem Step.trans {w0 W W1 W2 : World} {g : Nat} {cs : List Int} {n m : Nat} (h : Step w0 W g cs n W1) (k : Step w0 W1 g cs m W2) : Step w0 W g cs m W2 := ⟨k.1, h.2.trans k.2 (.inl rfl)⟩
theorem Step.mono {w0 W W1 : World} {g : Nat} {cs : List Int} {n m : Nat} (h : Step w0 W g cs n W1) (hm : n ≤ m) : Step w0 W g cs m W1 := ⟨h.1.mono hm, h.2⟩
theorem step_refl {w0 W : World} {g : Nat} {cs : List Int} {n : Nat} (h : CB w0 W g cs n) : Step w0 W g cs n W := ⟨h, KeepBut.refl W g none⟩
theorem Step.below {w0 W W1 W2 : World} {g : Nat} {cs : List Int} {n : Nat} (h : Step w0 W g cs n W1) (hb : Below W1.heap.size W1 W2) : Step w0 W g cs n W2 := ⟨h.1.below hb, h.2.trans (KeepBut.of_below hb g none) (.inl rfl)⟩
theorem Step.alloc {w0 W W1 : World} {g : Nat} {cs : List Int} {n : Nat} (h : Step w0 W g cs n W1) (o : Obj) : Step w0 W g cs n (W1.alloc o) := h.below ((Below.refl _ W1).alloc (Nat.le_refl _) o)
theorem Step.drew {w0 W W1 : World} {g : Nat} {cs : List Int} {n : Nat} (h : Step w0 W g cs n W1) : Step w0 W g cs n W1.drew := ⟨h.1.drew, keep_drew h.2⟩
theorem Step.drewN {w0 W W1 : World} {g : Nat} {cs : List Int} {n : Nat} (h : Step w0 W g cs n W1) (m : Nat) : Step w0 W g cs n (W1.drewN m) := ⟨h.1.drewN m, keep_drewN h.2 m⟩
set_option maxHeartbeats 4000000 in
set_option maxRecDepth 100000 in
theorem pick_walk (g : Nat) (cs : List Int) (n : Nat) (m : Int) (hm : 1 ≤ m ∧ m ≤ 200) (w0 W : World) (h : CB w0 W g cs n) (hn : n < 1000000000) : Calls Tryd.prog 36 #[.pointer (some ⟨g, 0, none⟩), .int .i64 m] W fun e w' =>
    ∃ v : Nat, e = .returned (.int .i64 v) ∧ (v : Int) < m ∧ Step w0 W g cs (n + 1) w' := by
  have HX := Go.Lib.hid (next_walk g cs n w0 W h hn)
  have HH := Go.Lib.hid h
  have HM := Go.Lib.hid hm
  by_cases h1 : m ≤ 1
  · clear h hm
    go_enter Tryd.func36, Tryd.ntmps36
    go_wp2_with fail
    go_ret
    exact ⟨0, rfl, by have := HM.out; omega, (step_refl HH.out).mono (Nat.le_succ n)⟩
  · have h2 : ¬ 200 < m := by omega
    have h3 : (m == 0) = false := beq_eq_false_iff_ne.mpr (by omega)
    have h4 : ¬ m = 0 := by omega
    clear h hm
    go_enter Tryd.func36, Tryd.ntmps36
    go_wp2_with fail
    refine HX.out.mono ?_
    rintro e w1 ⟨b, rfl, b0, b1, hs⟩
    have HB := Go.Lib.hid (And.intro b0 b1)
    have HS := Go.Lib.hid hs
    clear b0 b1 hs
    go_wp2_with fail
    go_ret
    have h5 := Int.tmod_nonneg m HB.out.1
    have h6 := Int.tmod_lt_of_pos b (show 0 < m by have := HM.out; omega)
    exact ⟨(Int.tmod b m).toNat, by rw [Int.toNat_of_nonneg h5]; rfl, by rw [Int.toNat_of_nonneg h5]; exact h6, HS.out⟩
set_option maxHeartbeats 4000000 in
set_option maxRecDepth 100000 in
theorem one_walk (g : Nat) (cs : List Int) (n : Nat) (m : Int) (hm : 1 ≤ m ∧ m ≤ 200) (w0 W : World) (h : CB w0 W g cs n) (hn : n < 1000000000) : Calls Tryd.prog 41 #[.pointer (some ⟨g, 0, none⟩), .int .i64 m] W fun e w' =>
    ∃ b : Bool, e = .returned (.bool b) ∧ Step w0 W g cs (n + 1) w' := by
  have HX := Go.Lib.hid (pick_walk g cs n m hm w0 W h hn)
  clear h hm
  go_enter Tryd.func41, Tryd.ntmps41
  go_wp2_with fail
  refine HX.out.mono ?_
  rintro e w1 ⟨v, rfl, v1, hs⟩
  have HS := Go.Lib.hid hs
  clear v1 hs
  go_wp2_with fail
  go_ret
  exact ⟨_, rfl, HS.out⟩
set_option maxHeartbeats 4000000 in
set_option maxRecDepth 100000 in
theorem of_walk (g : Nat) (cs : List Int) (n b : Nat) (hbg : b ≠ g) (w0 W : World) (h : CB w0 W g cs n) (hn : n < 1000000000) (hc : ∀ j, j < 4 → ∃ s : ByteArray, W.cell? ⟨b, j, none⟩ = some (.string s) ∧ s.size ≤ 2) : Calls Tryd.prog 45 #[.pointer (some ⟨g, 0, none⟩), .slice (some ⟨b, 0, none⟩) 4 4] W fun e w' =>
    ∃ s : ByteArray, e = .returned (.string s) ∧ s.size ≤ 2 ∧ Step w0 W g cs (n + 1) w' := by
  have HX := Go.Lib.hid (pick_walk g cs n 4 (by decide) w0 W h hn)
  have HC := Go.Lib.hid hc
  clear h hc
  go_enter Tryd.func45, Tryd.ntmps45
  go_wp2_with fail
  refine HX.out.mono ?_
  rintro e w1 ⟨v, rfl, v1, hs⟩
  have HS := Go.Lib.hid hs
  obtain ⟨s, hx, hz⟩ := HC.out v (by omega)
  have hx := keep_cell hs.2 hx hbg
  have HZ := Go.Lib.hid hz
  have q0 : (0 : Int) ≤ (v : Int) := by omega
  clear hs hz
  go_wp2_with fail
  go_ret
  exact ⟨_, rfl, HZ.out, HS.out⟩
set_option maxHeartbeats 4000000 in
set_option maxRecDepth 100000 in
theorem among_walk (g : Nat) (cs : List Int) (n b : Nat) (hbg : b ≠ g) (w0 W : World) (h : CB w0 W g cs n) (hn : n < 1000000000) (hc : ∀ j, j < 4 → ∃ s : Int, W.cell? ⟨b, j, none⟩ = some (.int .i64 s)) : Calls Tryd.prog 43 #[.pointer (some ⟨g, 0, none⟩), .slice (some ⟨b, 0, none⟩) 4 4] W fun e w' =>
    ∃ s : Int, e = .returned (.int .i64 s) ∧ Step w0 W g cs (n + 1) w' := by
  have HX := Go.Lib.hid (pick_walk g cs n 4 (by decide) w0 W h hn)
  have HC := Go.Lib.hid hc
  clear h hc
  go_enter Tryd.func43, Tryd.ntmps43
  go_wp2_with fail
  refine HX.out.mono ?_
  rintro e w1 ⟨v, rfl, v1, hs⟩
  have HS := Go.Lib.hid hs
  obtain ⟨s, hx⟩ := HC.out v (by omega)
  have hx := keep_cell hs.2 hx hbg
  have q0 : (0 : Int) ≤ (v : Int) := by omega
  clear hs
  go_wp2_with fail
  go_ret
  exact ⟨_, rfl, HS.out⟩
theorem CB.lt {w0 W : World} {g : Nat} {cs : List Int} {n : Nat} (h : CB w0 W g cs n) : g < W.heap.size := by
  obtain ⟨_, _, _, _, _, hb, _⟩ := h.blk
  exact (Array.getElem?_eq_some_iff.1 hb).1
theorem four_of {w0 W w1 : World} {g : Nat} {cs : List Int} {n : Nat} (h : Step w0 W g cs n w1) (hn : n < 1000000000) (a b c d : ByteArray) (ha : a.size ≤ 2) (hb : b.size ≤ 2) (hc : c.size ≤ 2) (hd : d.size ≤ 2) :
    Calls Tryd.prog 45 #[.pointer (some ⟨g, 0, none⟩), .slice (some ⟨w1.heap.size, 0, none⟩) 4 4] (w1.alloc (.cells #[.string a, .string b, .string c, .string d] 9)) fun e w' =>
    ∃ s : ByteArray, e = .returned (.string s) ∧ s.size ≤ 2 ∧ Step w0 W g cs (n + 1) w' := by
  have hk := blk_new w1 (.cells #[.string a, .string b, .string c, .string d] 9)
  refine (of_walk g cs n w1.heap.size (Nat.ne_of_gt h.1.lt) w0 _ (h.1.alloc _) hn (fun j hj => ?_)).mono ?_
  · rcases (show j = 0 ∨ j = 1 ∨ j = 2 ∨ j = 3 by omega) with rfl | rfl | rfl | rfl
    · exact ⟨a, blk_cell hk 0, ha⟩
    · exact ⟨b, blk_cell hk 1, hb⟩
    · exact ⟨c, blk_cell hk 2, hc⟩
    · exact ⟨d, blk_cell hk 3, hd⟩
  · rintro e w' ⟨s, rfl, hz, hs⟩
    exact ⟨s, rfl, hz, (h.alloc _).trans hs⟩
set_option maxHeartbeats 4000000 in
set_option maxRecDepth 100000 in
theorem way_walk (g : Nat) (cs : List Int) (n : Nat) (w0 W : World) (h : CB w0 W g cs n) (hn : n < 100000000) : Calls Tryd.prog 33 #[.pointer (some ⟨g, 0, none⟩)] W fun e w' =>
    ∃ s : ByteArray, e = .returned (.string s) ∧ s.size ≤ 2 ∧ Step w0 W g cs (n + 2) w' := by
  have HX := Go.Lib.hid (one_walk g cs n 14 (by decide) w0 W h (by omega))
  have HN := Go.Lib.hid hn
  clear h hn
  go_enter Tryd.func33, Tryd.ntmps33
  go_wp2_with fail
  refine HX.out.mono ?_
  rintro e w1 ⟨v, rfl, hs⟩
  have HS := Go.Lib.hid hs
  clear hs HX
  cases v with
  | true =>
    go_wp2_with fail
    refine (four_of HS.out (by have := HN.out; omega) _ _ _ _ (by decide) (by decide) (by decide) (by decide)).mono ?_
    rintro e w2 ⟨s, rfl, hz, hs⟩
    have HS2 := Go.Lib.hid (And.intro hz hs)
    clear hz hs HS
    go_wp2_with fail
    go_ret
    exact ⟨_, rfl, HS2.out.1, HS2.out.2⟩
  | false =>
    go_wp2_with fail
    refine (four_of HS.out (by have := HN.out; omega) _ _ _ _ (by decide) (by decide) (by decide) (by decide)).mono ?_
    rintro e w2 ⟨s, rfl, hz, hs⟩
    have HS2 := Go.Lib.hid (And.intro hz hs)
    clear hz hs HS
    go_wp2_with fail
    go_ret
    exact ⟨_, rfl, HS2.out.1, HS2.out.2⟩
def strSz : Value → Nat
  | .string s => s.size
  | _ => 0
theorem cuts (s : ByteArray) (i : Nat) (hi : i < s.size) : ∃ p r r2 : ByteArray, p.size + r.size = s.size ∧ p.size + r2.size + 1 = s.size ∧ (∀ W, (Instr.slice 9 (.string s) none (some (.int .i64 (i : Int))) none).run Tryd.prog W = .ok (.string p) W) ∧
    (∀ W, (Instr.slice 9 (.string s) (some (.int .i64 (i : Int))) none none).run Tryd.prog W = .ok (.string r) W) ∧ (∀ W, (Instr.slice 9 (.string s) (some (.int .i64 ((i : Int) + 1))) none none).run Tryd.prog W = .ok (.string r2) W) := by
  refine ⟨s.extract 0 i, s.extract i s.size, s.extract (i + 1) s.size, by simp; omega, by simp; omega, fun W => ?_, fun W => ?_, fun W => ?_⟩
  · rw [run_slice_string_to_if (h := Tryd.underlying9), if_pos ⟨by omega, by omega⟩]
    rfl
  · rw [run_slice_string_from_if (h := Tryd.underlying9), if_pos ⟨by omega, by omega⟩]
    rfl
  · rw [run_slice_string_from_if (h := Tryd.underlying9), if_pos ⟨by omega, by omega⟩]
    rfl
theorem spoil_ix (j : Nat) (hj : (j : Int) < 6) (W : World) : ∃ c : UInt8, (Instr.index 9 (.string ⟨#[110, 101, 115, 119, 120, 32]⟩) (.int .i64 (j : Int))).run Tryd.prog W = .ok (.int .u8 (c.toNat : Int)) W := by
  rcases (show j = 0 ∨ j = 1 ∨ j = 2 ∨ j = 3 ∨ j = 4 ∨ j = 5 by omega) with rfl | rfl | rfl | rfl | rfl | rfl
  · exact ⟨110, by kernel_rfl⟩
  · exact ⟨101, by kernel_rfl⟩
  · exact ⟨115, by kernel_rfl⟩
  · exact ⟨119, by kernel_rfl⟩
  · exact ⟨120, by kernel_rfl⟩
  · exact ⟨32, by kernel_rfl⟩
theorem byte_text (c : UInt8) (W : World) : (convert 22 9 (.slice (some ⟨W.heap.size, 0, none⟩) 1 1)).run Tryd.prog (W.alloc (.cells #[.int .u8 (c.toNat : Int)] 5)) = .ok (.string ⟨#[c]⟩) (W.alloc (.cells #[.int .u8 (c.toNat : Int)] 5)) :=
  run_convert_bytes_back _ _ _ 5 _ 1 [c] Tryd.underlying22 Tryd.underlying5 Tryd.underlying9 (fun j hj => by
    obtain rfl : j = 0 := by simpa using hj
    exact blk_cell (blk_new W (.cells #[.int .u8 (c.toNat : Int)] 5)) 0)
set_option maxHeartbeats 4000000 in
set_option maxRecDepth 100000 in
theorem spoilt_walk (g : Nat) (cs : List Int) (n : Nat) (t0 : ByteArray) (ht : t0.size ≤ 100) (w0 W : World) (h : CB w0 W g cs n) (hn : n < 100000000) : Calls Tryd.prog 46 #[.pointer (some ⟨g, 0, none⟩), .string t0, .string ⟨#[110, 101, 115, 119, 120, 32]⟩] W fun e w' =>
    ∃ s : ByteArray, e = .returned (.string s) ∧ s.size ≤ 200 ∧ Step w0 W g cs (n + 20) w' := by
  have HX := Go.Lib.hid (pick_walk g cs n 2 (by decide) w0 W h (by omega))
  have HN := Go.Lib.hid (And.intro hn ht)
  clear h hn ht
  go_enter Tryd.func46, Tryd.ntmps46
  go_wp2_with fail
  refine HX.out.mono ?_
  rintro e w1 ⟨v, rfl, v1, hs⟩
  have HS := Go.Lib.hid (And.intro v1 hs)
  clear v1 hs HX
  go_wp2_with fail
  go_loopw [1, 7] (fun v1 v7 wr => ∃ (s : ByteArray) (k m : Nat), v1 = .string s ∧ v7 = .int .i64 (k : Int) ∧ s.size + k ≤ 110 ∧ m + 3 * k ≤ 19 ∧ Step w0 W g cs (n + m) wr) (fun _ v7 _ => (intOf v7).toNat)
  case atStart => exact ⟨t0, v + 1, 1, rfl, by have h_ := HS.out.1; rw [show wrap64 (1 + (v : Int)) = ((v + 1 : Nat) : Int) from by unfold wrap64; omega], by have := HN.out.2; have := HS.out.1; omega, by have := HS.out.1; omega, HS.out.2⟩
  case round =>
    obtain ⟨s, k, m, rfl, rfl, h1, h2, h3⟩ := hrel
    have H3 := Go.Lib.hid h3
    have H2 := Go.Lib.hid (And.intro h1 h2)
    clear h1 h2 h3 HS
    by_cases hk : k = 0
    · subst hk
      go_wp2_with fail
      go_ret
      exact ⟨s, rfl, by have := H2.out.1; omega, H3.out.mono (by have := H2.out.2; omega)⟩
    · by_cases hz : s.size = 0
      · have p0 : (0 : Int) < (k : Int) := by omega
        have p1 : ¬ (0 : Int) < (s.size : Int) := by omega
        clear hk hz
        go_wp2_with fail
        go_ret
        exact ⟨s, rfl, by have := H2.out.1; omega, H3.out.mono (by have := H2.out.2; omega)⟩
      · have p0 : (0 : Int) < (k : Int) := by omega
        have p1 : (0 : Int) < (s.size : Int) := by omega
        have HP := Go.Lib.hid (pick_walk g cs (n + m) (s.size : Int) ⟨by omega, by have := H2.out.1; omega⟩ w0 wr H3.out.1 (by have := HN.out.1; have := H2.out.2; omega))
        clear hk hz
        go_wp2_with fail
        refine HP.out.mono ?_
        rintro e w2 ⟨i, rfl, hi, hs⟩
        have hs2 := H3.out.trans hs
        have HP2 := Go.Lib.hid (pick_walk g cs (n + m + 1) 6 (by decide) w0 w2 hs2.1 (by have := HN.out.1; have := H2.out.2; omega))
        have HS2 := Go.Lib.hid hs2
        have HI := Go.Lib.hid hi
        clear hs hs2 hi HP
        go_wp2_with fail
        refine HP2.out.mono ?_
        rintro e w3 ⟨j, rfl, hj, hs⟩
        obtain ⟨c, hc⟩ := spoil_ix j hj w3
        have HS3 := Go.Lib.hid (HS2.out.trans hs)
        have hb := byte_text c w3
        have HS4 := Go.Lib.hid (HS3.out.alloc (.cells #[.int .u8 (c.toNat : Int)] 5))
        have HP3 := Go.Lib.hid (pick_walk g cs (n + m + 1 + 1) 3 (by decide) w0 _ HS4.out.1 (by have := HN.out.1; have := H2.out.2; omega))
        clear hs HP2 HS2 hj HS3
        go_wp2_with fail
        refine HP3.out.mono ?_
        rintro e w4 ⟨q, rfl, hq, hs⟩
        have HS5 := Go.Lib.hid (HS4.out.trans hs)
        have i0 : (0 : Int) ≤ (i : Int) := by omega
        have i1 : (i : Int) < (s.size : Int) := HI.out
        have i2 : (i : Int) ≤ (s.size : Int) := by omega
        have i3 : IntKind.i64.wrap ((i : Int) + 1) = ((i + 1 : Nat) : Int) := by rw [IntKind.wrap_i64]; have := H2.out.1; omega
        have i4 : ((i + 1 : Nat) : Int) ≤ (s.size : Int) := by omega
        obtain ⟨p, r, r2, z1, z2, hp, hr, hr2⟩ := cuts s i (by have := HI.out; omega)
        have hs110 := H2.out.1
        have k1 : (9223372036854775807 < p.size + 1) = False := eq_false (by omega)
        have k2 : (9223372036854775807 < p.size + 1 + r.size) = False := eq_false (by omega)
        have k3 : (9223372036854775807 < p.size + 1 + r2.size) = False := eq_false (by omega)
        have k4 : (9223372036854775807 < p.size + r2.size) = False := eq_false (by omega)
        have l1 : p.size + 1 ≤ 9223372036854775807 := by omega
        have l2 : p.size + 1 + r.size ≤ 9223372036854775807 := by omega
        have l3 : p.size + 1 + r2.size ≤ 9223372036854775807 := by omega
        have l4 : p.size + r2.size ≤ 9223372036854775807 := by omega
        have HZ := Go.Lib.hid (And.intro z1 z2)
        clear hs HP3 HS4 hb hc z1 z2 hs110
        rcases (show q = 0 ∨ q = 1 ∨ q = 2 by omega) with rfl | rfl | rfl
        · go_wp2_with fail
          repeat (go_quiet (fail); try go_wp2)
          have kw : wrap64 ((k : Int) - 1) = ((k - 1 : Nat) : Int) := by unfold wrap64; have := H2.out.1; omega
          rw [kw]
          exact ⟨⟨_, k - 1, m + 3, rfl, rfl, by simp only [ByteArray.size_append]; have e1 : (⟨#[c]⟩ : ByteArray).size = 1 := rfl; have := HZ.out; have := H2.out.1; omega, by have := H2.out.2; omega, (HS5.out.mono (by omega)).drewN _⟩, by simp [intOf]; omega⟩
        · go_wp2_with fail
          repeat (go_quiet (fail); try go_wp2)
          have kw : wrap64 ((k : Int) - 1) = ((k - 1 : Nat) : Int) := by unfold wrap64; have := H2.out.1; omega
          rw [kw]
          exact ⟨⟨_, k - 1, m + 3, rfl, rfl, by simp only [ByteArray.size_append]; have e1 : (⟨#[c]⟩ : ByteArray).size = 1 := rfl; have := HZ.out; have := H2.out.1; omega, by have := H2.out.2; omega, (HS5.out.mono (by omega)).drewN _⟩, by simp [intOf]; omega⟩
        · go_wp2_with fail
          repeat (go_quiet (fail); try go_wp2)
          have kw : wrap64 ((k : Int) - 1) = ((k - 1 : Nat) : Int) := by unfold wrap64; have := H2.out.1; omega
          rw [kw]
          exact ⟨⟨_, k - 1, m + 3, rfl, rfl, by simp only [ByteArray.size_append]; have e1 : (⟨#[c]⟩ : ByteArray).size = 1 := rfl; have := HZ.out; have := H2.out.1; omega, by have := H2.out.2; omega, (HS5.out.mono (by omega)).drewN _⟩, by simp [intOf]; omega⟩
set_option maxHeartbeats 4000000 in
set_option maxRecDepth 100000 in
theorem rolls_walk (g : Nat) (cs : List Int) (n : Nat) (w0 W : World) (h : CB w0 W g cs n) (hn : n < 100000) : Calls Tryd.prog 19 #[.pointer (some ⟨g, 0, none⟩), .int .i64 9] W fun e w' =>
    ∃ s : ByteArray, e = .returned (.string s) ∧ s.size ≤ 200 ∧ Step w0 W g cs (n + 1000) w' := by
  have HX := Go.Lib.hid (pick_walk g cs n 10 (by decide) w0 W h (by omega))
  have HN := Go.Lib.hid hn
  clear h hn
  go_enter Tryd.func19, Tryd.ntmps19
  go_wp2_with fail
  refine HX.out.mono ?_
  rintro e w1 ⟨v, rfl, v1, hs⟩
  have HS := Go.Lib.hid (And.intro v1 hs)
  clear v1 hs HX
  go_wp2_with fail
  go_loopw [5, 6] (fun v5 v6 wr => ∃ (s : ByteArray) (k m : Nat), v5 = .string s ∧ v6 = .int .i64 (k : Int) ∧ s.size + 2 * k ≤ 20 ∧ m + k ≤ 20 ∧ Step w0 W g cs (n + m) wr) (fun _ v6 _ => (intOf v6).toNat)
  case atStart => exact ⟨⟨#[]⟩, v, 1, rfl, rfl, by have h_ := HS.out.1; show 0 + 2 * v ≤ 20; omega, by have := HS.out.1; omega, HS.out.2⟩
  case round =>
    obtain ⟨s, k, m, rfl, rfl, h1, h2, h3⟩ := hrel
    have H3 := Go.Lib.hid h3
    have H2 := Go.Lib.hid (And.intro h1 h2)
    clear h1 h2 h3 HS
    by_cases hk : k = 0
    · subst hk
      have HP := Go.Lib.hid (pick_walk g cs (n + m) 16 (by decide) w0 wr H3.out.1 (by have := HN.out; have := H2.out.2; omega))
      go_wp2_with fail
      refine HP.out.mono ?_
      rintro e w2 ⟨q, rfl, hq, hs⟩
      have H5 := Go.Lib.hid (H3.out.trans hs)
      clear hs hq HP H3
      by_cases q0 : q = 0
      · subst q0
        go_wp2_with fail
        refine (spoilt_walk g cs (n + m + 1) s (by have := H2.out.1; omega) w0 w2 H5.out.1 (by have := HN.out; have := H2.out.2; omega)).mono ?_
        rintro e w3 ⟨s2, rfl, hz, hs⟩
        have H6 := Go.Lib.hid (And.intro hz (H5.out.trans hs))
        clear hz hs H5
        go_wp2_with fail
        go_ret
        exact ⟨_, rfl, H6.out.1, H6.out.2.mono (by have := H2.out.2; omega)⟩
      by_cases q1 : q = 1
      · subst q1
        clear q0
        go_wp2_with fail
        go_loopw [5] (fun v5 wr => ∃ (s : ByteArray) (m : Nat), v5 = .string s ∧ s.size ≤ 61 ∧ m ≤ 100 + 2 * s.size ∧ Step w0 W g cs (n + m) wr) (fun v5 _ => 100 - strSz v5)
        case atStart => exact ⟨s, m + 1, rfl, by have := H2.out.1; omega, by have := H2.out; omega, H5.out⟩
        case round =>
          obtain ⟨s, m, rfl, h1, h2, h3⟩ := hrel
          have H6 := Go.Lib.hid (And.intro h1 (And.intro h2 h3))
          have HP := Go.Lib.hid (pick_walk g cs (n + m) 2 (by decide) w0 _ h3.1 (by have := HN.out; omega))
          clear h1 h2 h3 H5
          go_wp2_with fail
          refine HP.out.mono ?_
          rintro e w3 ⟨j, rfl, hj, hs⟩
          have H7 := Go.Lib.hid (And.intro hj (H6.out.2.2.trans hs))
          have jw : IntKind.i64.wrap (60 + (j : Int)) = ((60 + j : Nat) : Int) := by rw [IntKind.wrap_i64]; omega
          clear hs hj HP
          by_cases hl : s.size < 60 + j
          · have k0 : (s.size : Int) < ((60 + j : Nat) : Int) := by omega
            have k0' : (s.size : Int) < 60 + (j : Int) := by omega
            have k1 : (9223372036854775807 < s.size + 1) = False := eq_false (by have := H6.out.1; omega)
            have k2 : s.size + 1 ≤ 9223372036854775807 := by have := H6.out.1; omega
            have HL := Go.Lib.hid hl
            clear hl
            go_wp2_with fail
            have e1 : (⟨#[101]⟩ : ByteArray).size = 1 := rfl
            go_roundw
            case rel => exact ⟨_, m + 1, rfl, by rw [ByteArray.size_append]; have := HL.out; have := H7.out.1; have := H6.out.1; omega, by rw [ByteArray.size_append]; have := H6.out.2.1; omega, H7.out.2⟩
            case measure => simp only [strSz, ByteArray.size_append]; have := H6.out.1; omega
          · have k0 : ¬ (s.size : Int) < ((60 + j : Nat) : Int) := by omega
            have k0' : ¬ (s.size : Int) < 60 + (j : Int) := by omega
            clear hl
            go_wp2_with fail
            go_ret
            exact ⟨_, rfl, by have := H6.out.1; omega, H7.out.2.mono (by have := H6.out; omega)⟩
      · have q2 : ((q : Int) == 0) = false := beq_eq_false_iff_ne.mpr (by omega)
        have q3 : ((q : Int) == 1) = false := beq_eq_false_iff_ne.mpr (by omega)
        go_wp2_with fail
        go_ret
        exact ⟨_, rfl, by have := H2.out.1; omega, H5.out.mono (by have := H2.out.2; omega)⟩
    · have p0 : (0 : Int) < (k : Int) := by omega
      clear hk
      go_wp2_with fail
      refine (four_of H3.out (by have := HN.out; have := H2.out.2; omega) _ _ _ _ (by decide) (by decide) (by decide) (by decide)).mono ?_
      rintro e w2 ⟨s2, rfl, hz, hs⟩
      have H4 := Go.Lib.hid (And.intro hz hs)
      have hs1 := H2.out.1
      have k1 : (9223372036854775807 < s.size + s2.size) = False := eq_false (by omega)
      have k2 : s.size + s2.size ≤ 9223372036854775807 := by omega
      clear hz hs hs1
      go_wp2_with fail
      have kw : wrap64 ((k : Int) - 1) = ((k - 1 : Nat) : Int) := by unfold wrap64; have := H2.out.1; omega
      go_roundw
      all_goals rw [kw]
      case rel => exact ⟨_, k - 1, m + 1, rfl, rfl, by rw [ByteArray.size_append]; have := H4.out.1; have := H2.out.1; omega, by have := H2.out.2; omega, H4.out.2.mono (by omega)⟩
      case measure => simp [intOf]; omega
--REST
end Go.Proofs.YtfcifidjjbknaaaDoor.Cur
