/- The call that reads a labelled board: its floor, and its cells with labels. Conditions: none. -/
import Derived.Test.YtolopkjpodnmkaaDoorByteRow
import Derived.Test.YtolopkjpodnmkaaDoorQBsx
namespace Go.Proofs.YtolopkjpodnmkaaDoor.ReadLab
open Go.RowKit Go.Proofs.YtolopkjpodnmkaaDoorW.PrintWords Go.Proofs.YtolopkjpodnmkaaDoor.ByteRow
set_option linter.unusedVariables false
set_option linter.unusedSimpArgs false

def plainText (b : ByteArray) : ByteArray := ⟨(b.data.toList.map unlab).toArray⟩
def labs (l : List UInt8) : List Int := (l.filter fun c => !(c == 47)).map fun c => (c.toNat : Int)
theorem labs_snoc (l : List UInt8) (i : Nat) (h : i < l.length) : labs (l.take (i + 1)) = if l.getD i 0 = 47 then labs (l.take i) else labs (l.take i) ++ [((l.getD i 0).toNat : Int)] := by
  have e : l.getD i 0 = l[i] := by simp [List.getD, h]
  rw [e, List.take_succ_eq_append_getElem h, labs, List.filter_append, List.map_append]
  by_cases hc : l[i] = 47
  · rw [if_pos hc]
    simp [hc, labs]
  · rw [if_neg hc]
    simp [hc, labs]
theorem digit_yes (c : UInt8) (h : 48 ≤ c.toNat ∧ c.toNat ≤ 57) : QBs.spec_prDigit.f (c.toNat : Int) = some true := by
  unfold QBs.spec_prDigit.f
  rw [if_pos (by omega), decide_eq_true (by omega)]
theorem digit_no (c : UInt8) (h : ¬ (48 ≤ c.toNat ∧ c.toNat ≤ 57)) : QBs.spec_prDigit.f (c.toNat : Int) = some false := by
  unfold QBs.spec_prDigit.f
  by_cases h1 : 48 ≤ c.toNat
  · rw [if_pos (by omega), decide_eq_false (by omega)]
  · rw [if_neg (by omega)]
theorem info_u8 : (Tryd.prog.info? 5).map (fun i => (i.zero, i.size, i.bytes)) = some (some (.int .u8 0), 1, 1) := by kernel_rfl
abbrev cells0 : Array Value := #[.int .i64 0, .int .i64 0, .slice none 0 0]
/-- What the loop keeps: the row of bytes, the labels, the result's block. -/
structure Lp (w wr : World) (g B : Nat) (l : List UInt8) (i : Nat) (z : Array Value) (v : Value) : Prop where
  st : St w wr g (ByteRow.part i l) z
  row : Kd.R (Kd.int .u8) 5 wr w.heap.size (fun k => k ≠ g ∧ k ≠ B) v (labs (l.take i))
  blk : wr.heap[B]? = some (.cells cells0 35 (0, 0))
  ne : B ≠ g
  big : w.heap.size ≤ B
theorem Lp.below {w wr w1 : World} {g B : Nat} {l : List UInt8} {i : Nat} {z : Array Value} {v : Value} (h : Lp w wr g B l i z v) (hb : Below wr.heap.size wr w1) : Lp w w1 g B l i z v :=
  ⟨h.st.below hb, Kd.R_below h.row hb, blk_below h.blk hb, h.ne, h.big⟩
theorem Lp.set {w wr : World} {g B : Nat} {l : List UInt8} {i : Nat} {z : Array Value} {v : Value} (h : Lp w wr g B l i z v) (hi : i < l.length) (b : UInt8) :
    St w (wr.setCell ⟨g, i, none⟩ (.int .u8 b.toNat)) g ((ByteRow.part i l).set i b) z ∧ Kd.R (Kd.int .u8) 5 (wr.setCell ⟨g, i, none⟩ (.int .u8 b.toNat)) w.heap.size (fun k => k ≠ g ∧ k ≠ B) v (labs (l.take i)) ∧
      (wr.setCell ⟨g, i, none⟩ (.int .u8 b.toNat)).heap[B]? = some (.cells cells0 35 (0, 0)) :=
  ⟨h.st.set i (by rw [part_length]; exact hi) b, Kd.R_far (p := ⟨g, i, none⟩) h.row (fun _ hk => hk.1) _, blk_far h.blk h.ne _⟩
theorem Lp.new {w W w1 : World} {g B : Nat} {l : List UInt8} {i : Nat} {z : Array Value} {v v1 : Value} {xs : List Int} (h1 : St w W g (ByteRow.part i l) z) (h2 : Kd.R (Kd.int .u8) 5 W w.heap.size (fun k => k ≠ g ∧ k ≠ B) v xs)
    (h3 : W.heap[B]? = some (.cells cells0 35 (0, 0))) (h4 : B ≠ g) (h5 : w.heap.size ≤ B) (ho : Kd.R (Kd.int .u8) 5 w1 w.heap.size (fun k => k ≠ g ∧ k ≠ B) v1 (labs (l.take i))) (hb : Below w.heap.size w w1) (hg : W.grownBy w1 v.ownBlock) : Lp w w1 g B l i z v1 :=
  ⟨⟨hb, h1.big, (hg.block g h1.lt (fun e => (h2.1 g e.symm).1 rfl)).trans h1.blk⟩, ho, (hg.block B (Array.getElem?_eq_some_iff.1 h3).1 (fun e => (h2.1 B e.symm).2 rfl)).trans h3, h4, h5⟩

set_option maxHeartbeats 4000000 in
set_option maxRecDepth 100000 in
theorem read_walk (k : Nat) (s : ByteArray) (hs : s.size ≤ 42) (r1 r2 : Int) (r3 : List Int) (r4 : Bool) (w : World) (hrd : QBs.spec_boRead.f k (plainText s) = some (r1, r2, r3, r4)) :
    Calls Tryd.prog 21 #[.string s] w fun e w' => ∃ v2_ v3_ : Value, e = .returned (.tuple #[.agg #[.int .i64 r1, .int .i64 r2, v2_], v3_, .bool r4]) ∧ Kd.R (Kd.int .u8) 5 w' w.heap.size (fun k_ => some k_ ≠ (v3_ : Value).ownBlock) v2_ r3 ∧ Kd.R (Kd.int .u8) 5 w' w.heap.size (fun k_ => some k_ ≠ (v2_ : Value).ownBlock) v3_ (labs s.data.toList) ∧ Below w.heap.size w w' := by
  have HR := Go.Lib.hid hrd
  have hsz : s.data.toList.length = s.size := rfl
  have HL := Go.Lib.hid hsz
  clear hrd hsz
  go_enter Tryd.func21, Tryd.ntmps21
  obtain ⟨w1, hw1⟩ : ∃ w1, w1 = w.alloc (.cells cells0 35) := ⟨_, rfl⟩
  obtain ⟨cap, wb, z, hconv, hst⟩ := ByteRow.start s w1
  have hb1 : Below w.heap.size w w1 := by rw [hw1]; exact (Below.refl _ w).alloc (Nat.le_refl _) _
  have hB : w1.heap[w.heap.size]? = some (.cells cells0 35 (0, 0)) := by rw [hw1]; exact blk_new _ _
  have hg : w1.heap.size = w.heap.size + 1 := by rw [hw1]; simp
  rw [hg] at hst
  have hst2 : St w wb (w.heap.size + 1) s.data.toList z := ⟨below_then hb1 hb1.size hst.bel, Nat.le_succ _, hst.blk⟩
  have hlp : Lp w wb (w.heap.size + 1) w.heap.size s.data.toList 0 z (.slice none 0 0) := ⟨by rw [part_none]; exact hst2, Kd.R_nil _ _ _ _ _, blk_below hB hst.bel, by omega, Nat.le_refl _⟩
  have HP := Go.Lib.hid hlp
  have HW := Go.Lib.hid hw1
  rw [hw1] at hconv
  clear hst hb1 hB hg hst2 hlp hw1
  go_wp2_with fail
  go_loopw [6, 19] (fun v6 v19 wr => ∃ i : Nat, v19 = .int .i64 i ∧ i ≤ s.size ∧ Lp w wr (w.heap.size + 1) w.heap.size s.data.toList i z v6) (fun _ v19 _ => s.size - (intOf v19).toNat)
  case atStart => exact ⟨0, rfl, by omega, HP.out⟩
  case round =>
    clear HP
    obtain ⟨i, rfl, hi, hlp⟩ := hrel
    have HT := Go.Lib.hid hlp
    clear hlp
    by_cases hlt : i < s.size
    · have hil : i < s.data.toList.length := by rw [HL.out]; exact hlt
      obtain ⟨c, hce⟩ : ∃ c, c = s.data.toList.getD i 0 := ⟨_, rfl⟩
      have hr := HT.out.st.read i (by rw [part_length]; exact hil)
      rw [part_at _ _ hil, ← hce] at hr
      have hls := labs_snoc s.data.toList i hil
      rw [← hce] at hls
      have HJ := Go.Lib.hid hil
      have HC := Go.Lib.hid hce
      have HS := Go.Lib.hid hls
      have hlen : (labs (s.data.toList.take i)).length ≤ 42 := by
        unfold labs
        rw [List.length_map]
        exact Nat.le_trans (List.length_filter_le _ _) (by rw [List.length_take]; omega)
      obtain ⟨A6, c6, he6⟩ := Kd.R_slice HT.out.row
      obtain ⟨xs, hxs⟩ : ∃ xs, xs = labs (s.data.toList.take i) := ⟨_, rfl⟩
      rw [← hxs] at he6 hlen
      subst he6
      have HX := Go.Lib.hid hxs
      clear hil hce hls
      by_cases hd : 48 ≤ c.toNat ∧ c.toNat ≤ 57
      · have HQ := Go.Lib.hid (digit_yes c hd)
        have hu : unlab c = 46 := by unfold unlab; rw [if_pos hd]
        have h47 : ¬ c = 47 := by
          rintro rfl
          exact absurd hd (by decide)
        have hb47 : ((c.toNat : Int) == 47) = false := by
          rw [beq_eq_false_iff_ne]
          intro e
          exact h47 (UInt8.toNat_inj.1 (by show c.toNat = 47; omega))
        have HU := Go.Lib.hid hu
        have H47 := Go.Lib.hid h47
        clear hd hu h47
        go_wp2_with fail
        refine (QBs.spec_prDigit.calls (c.toNat : Int) true _ HQ.out).mono ?_
        rintro e w2 ⟨rfl, hdr⟩
        have ht2 := HT.out.below hdr.below
        have hf := ht2.st.open_ i (by rw [part_length]; exact HJ.out)
        have hr2 := ht2.st.read i (by rw [part_length]; exact HJ.out)
        obtain ⟨q1, q2, q3⟩ := ht2.set HJ.out (unlab c)
        rw [HC.out, part_set _ _ HJ.out, ← HC.out, HU.out] at q1
        rw [HU.out, ← hxs] at q2
        rw [HU.out] at q3
        rw [show ((46 : UInt8).toNat : Int) = 46 from rfl] at q1 q2 q3
        have hlt1 := q1.lt
        have HQ1 := Go.Lib.hid q1
        have HQ2 := Go.Lib.hid q2
        have HQ3 := Go.Lib.hid q3
        clear ht2 hdr q1 q2 q3 hxs
        go_wp2_with ((with_reducible refine gate_builtin (b := .append) (xs := #[.tmp 31, .tmp 33]) rfl ?_); at_builtin; refine Kd.R_append (Kd.int .u8) (w0 := w) w.heap.size rfl (.tmp 31) (.tmp 33) 33 5 (.int .u8 0) 1 rfl Tryd.underlying33 info_u8 rfl (by decide) (by decide) (.slice A6 xs.length c6) xs (c.toNat : Int) [.int .u8 (c.toNat : Int)] (fun k => k ≠ w.heap.size + 1 ∧ k ≠ w.heap.size) (fun _ => False) rfl ?aX ?aP (fun _ hk => hk.elim) ?aF ?aO ?aB ?aS ?aL ?_; (case aX => first | rfl | (go_simp; done) | (go_simp; rfl)); (case aP => exact rfl); (case aF => exact fun k hk => by omega); (case aO => exact HQ2.out); (case aB => exact HQ1.out.bel); (case aS => exact HQ1.out.bel.size); (case aL => omega); intro v4 w4 ho hb hg hat; have HO4 := Go.Lib.hid ho; have HB4 := Go.Lib.hid hb; have HG4 := Go.Lib.hid hg; clear ho hb hg hat)
        go_roundw
        case rel =>
          refine ⟨i + 1, by go_num, by omega, ?_⟩
          have ho := HO4.out
          have hs2 := HS.out
          rw [if_neg H47.out, ← HX.out] at hs2
          rw [← hs2] at ho
          exact Lp.new HQ1.out HQ2.out HQ3.out (by omega) (Nat.le_refl _) ho HB4.out HG4.out
        case measure => simp [intOf]; omega
      · have HQ := Go.Lib.hid (digit_no c hd)
        have HD := Go.Lib.hid hd
        by_cases h47 : c = 47
        · have hb47 : ((c.toNat : Int) == 47) = true := by rw [h47]; rfl
          have H47 := Go.Lib.hid h47
          clear hd h47
          go_wp2_with fail
          refine (QBs.spec_prDigit.calls (c.toNat : Int) false _ HQ.out).mono ?_
          rintro e w2 ⟨rfl, hdr⟩
          have ht2 := HT.out.below hdr.below
          have HQ1 := Go.Lib.hid ht2
          clear ht2 hdr hxs
          go_wp2_with fail
          go_roundw
          case rel =>
            refine ⟨i + 1, by go_num, by omega, ?_⟩
            have hs2 := HS.out
            rw [if_pos H47.out] at hs2
            have hq := HQ1.out
            exact ⟨by rw [← part_keep _ _ HJ.out (by rw [← HC.out]; exact HD.out)]; exact hq.st, by rw [hs2]; exact hq.row, hq.blk, hq.ne, hq.big⟩
          case measure => simp [intOf]; omega
        · have hb47 : ((c.toNat : Int) == 47) = false := by
            rw [beq_eq_false_iff_ne]
            intro e
            exact h47 (UInt8.toNat_inj.1 (by show c.toNat = 47; omega))
          have H47 := Go.Lib.hid h47
          clear hd h47
          go_wp2_with fail
          refine (QBs.spec_prDigit.calls (c.toNat : Int) false _ HQ.out).mono ?_
          rintro e w2 ⟨rfl, hdr⟩
          have ht2 := HT.out.below hdr.below
          have q1 := ht2.st
          rw [part_keep _ _ HJ.out (by rw [← HC.out]; exact HD.out)] at q1
          have q2 := ht2.row
          rw [← hxs] at q2
          have q3 := ht2.blk
          have hlt1 := q1.lt
          have HQ1 := Go.Lib.hid q1
          have HQ2 := Go.Lib.hid q2
          have HQ3 := Go.Lib.hid q3
          clear ht2 hdr q1 q2 q3 hxs
          go_wp2_with ((with_reducible refine gate_builtin (b := .append) (xs := #[.tmp 31, .tmp 33]) rfl ?_); at_builtin; refine Kd.R_append (Kd.int .u8) (w0 := w) w.heap.size rfl (.tmp 31) (.tmp 33) 33 5 (.int .u8 0) 1 rfl Tryd.underlying33 info_u8 rfl (by decide) (by decide) (.slice A6 xs.length c6) xs (c.toNat : Int) [.int .u8 (c.toNat : Int)] (fun k => k ≠ w.heap.size + 1 ∧ k ≠ w.heap.size) (fun _ => False) rfl ?aX ?aP (fun _ hk => hk.elim) ?aF ?aO ?aB ?aS ?aL ?_; (case aX => first | rfl | (go_simp; done) | (go_simp; rfl)); (case aP => exact rfl); (case aF => exact fun k hk => by omega); (case aO => exact HQ2.out); (case aB => exact HQ1.out.bel); (case aS => exact HQ1.out.bel.size); (case aL => omega); intro v4 w4 ho hb hg hat; have HO4 := Go.Lib.hid ho; have HB4 := Go.Lib.hid hb; have HG4 := Go.Lib.hid hg; clear ho hb hg hat)
          go_roundw
          case rel =>
            refine ⟨i + 1, by go_num, by omega, ?_⟩
            have ho := HO4.out
            have hs2 := HS.out
            rw [if_neg H47.out, ← HX.out] at hs2
            rw [← hs2] at ho
            exact Lp.new HQ1.out HQ2.out HQ3.out (by omega) (Nat.le_refl _) ho HB4.out HG4.out
          case measure => simp [intOf]; omega
    · obtain rfl : i = s.size := by omega
      have hml : s.data.toList.length = s.size := HL.out
      have hbk := ByteRow.back (cap := cap) HT.out.st s.size (by rw [part_length, hml])
      have he : ByteRow.part s.size s.data.toList = s.data.toList.map unlab := by rw [← hml, part_all]
      have ht : s.data.toList.take s.size = s.data.toList := by rw [← hml, List.take_length]
      rw [he] at hbk
      obtain ⟨ts, hts⟩ : ∃ ts, ts = plainText s := ⟨_, rfl⟩
      rw [show (⟨(s.data.toList.map unlab).toArray⟩ : ByteArray) = ts from hts.symm] at hbk
      have hrd := HR.out
      rw [← hts] at hrd
      have hrow := HT.out.row
      rw [ht] at hrow
      have HRD := Go.Lib.hid hrd
      have HROW := Go.Lib.hid hrow
      clear hts hml he ht hrd hrow
      obtain ⟨A6, c6, he6⟩ := Kd.R_slice HROW.out
      obtain ⟨m6, hm6⟩ : ∃ m6, m6 = (labs s.data.toList).length := ⟨_, rfl⟩
      rw [← hm6] at he6
      subst he6
      clear hm6
      go_wp2_with fail
      refine (QBs.spec_boRead.calls k ts r1 r2 r3 r4 _ HRD.out).mono ?_
      rintro e w5 ⟨v7, rfl, ho, hb⟩
      obtain ⟨A7, c7, he7⟩ := Kd.R_slice ho
      obtain ⟨m7, hm7⟩ : ∃ m7, m7 = r3.length := ⟨_, rfl⟩
      rw [← hm7] at he7
      subst he7
      clear hm7
      have b5 := blk_below HT.out.blk hb
      have hlt5 : w.heap.size < w5.heap.size := (Array.getElem?_eq_some_iff.1 b5).1
      have k0 : w5.cell? ⟨w.heap.size, 0, none⟩ = some (.int .i64 0) := blk_cell b5 0
      have k1 : w5.cell? ⟨w.heap.size, 1, none⟩ = some (.int .i64 0) := blk_cell b5 1
      have k2 : w5.cell? ⟨w.heap.size, 2, none⟩ = some (.slice none 0 0) := blk_cell b5 2
      have f0 := blk_frozen b5 0
      have f1 := blk_frozen b5 1
      have f2 := blk_frozen b5 2
      have hne5 : ¬ w.heap.size = w5.heap.size := by omega
      have hne6 : ¬ w5.heap.size = w.heap.size := by omega
      have HO := Go.Lib.hid ho
      have HB := Go.Lib.hid hb
      have B5 := Go.Lib.hid b5
      clear ho hb b5
      go_wp2_with fail
      have b5 := B5.out
      obtain ⟨inner, hown⟩ := Kd.R_own HO.out
      have r1a := Kd.R_types (Kd.R_newR HO.out HROW.out) b5 (by decide)
      have r2a := Kd.R_mono (Kd.R_below (Kd.R_bound HROW.out) HB.out) (ok' := fun k => some k ≠ (Value.slice A7 m7 c7).ownBlock ∧ k ≠ w.heap.size) (fun k hk => ⟨fun e => by have h1 := own_base hown k e.symm; have h2 := hk.2.2.1; omega, hk.1.2⟩)
      have hb := below_then HT.out.st.bel HT.out.st.bel.size HB.out
      have hsz := HT.out.st.bel.size
      refine bodyPost_ret (results_ctt rfl _ _ w.heap.size 35 #[.int .i64 r1, .int .i64 r2, .slice A7 m7 c7] (0, 0) _ rfl (blk_alloc (blk_put (cs := #[.int .i64 r1, .int .i64 r2, .slice none 0 0]) (blk_put (cs := #[.int .i64 r1, .int .i64 0, .slice none 0 0]) (blk_put (cs := cells0) b5 0 _ rfl) 1 _ rfl) 2 _ rfl) _) Tryd.underlying35 rfl (by kernel_rfl)) rfl ?_
      refine ⟨.slice A7 m7 c7, .slice A6 m6 c6, rfl, ?_, ?_, ?_⟩
      · exact Kd.R_alloc (Kd.R_mono (Kd.R_far (p := ⟨w.heap.size, 2, none⟩) (Kd.R_far (p := ⟨w.heap.size, 1, none⟩) (Kd.R_far (p := ⟨w.heap.size, 0, none⟩) (Kd.R_lower r1a hsz) (fun _ hk => hk.2) _) (fun _ hk => hk.2) _) (fun _ hk => hk.2) _) (fun _ hk => hk.1.2)) _
      · exact Kd.R_alloc (Kd.R_mono (Kd.R_far (p := ⟨w.heap.size, 2, none⟩) (Kd.R_far (p := ⟨w.heap.size, 1, none⟩) (Kd.R_far (p := ⟨w.heap.size, 0, none⟩) r2a (fun _ hk => hk.2) _) (fun _ hk => hk.2) _) (fun _ hk => hk.2) _) (fun _ hk => hk.1)) _
      · exact below_alloc (below_set (below_set (below_set hb (Nat.le_refl _)) (Nat.le_refl _)) (Nat.le_refl _)) _

def says (k : Nat) (a0 : ByteArray) : Option (Int × Int × List Int × List Int × Bool) :=
  if a0.size ≤ 42 then (QBs.spec_boRead.f k (plainText a0)).bind fun r => some (r.1, r.2.1, r.2.2.1, labs a0.data.toList, r.2.2.2) else some (0, 0, [], [], false)
theorem says_mono : ∀ a0 k, LeO (says k a0) (says (k + 1) a0) := by
  intro a0 k
  unfold says
  by_cases h : a0.size ≤ 42
  · rw [if_pos h, if_pos h]
    exact LeO.bind (QBs.spec_boRead.mono _ k) (fun _ => LeO.refl _)
  · rw [if_neg h, if_neg h]
    exact LeO.refl _
set_option maxHeartbeats 4000000 in
set_option maxRecDepth 100000 in
theorem long_walk (s : ByteArray) (hs : 42 < s.size) (w : World) :
    Calls Tryd.prog 21 #[.string s] w fun e w' => e = .returned (.tuple #[.agg #[.int .i64 0, .int .i64 0, .slice none 0 0], .slice none 0 0, .bool false]) ∧ Below w.heap.size w w' := by
  go_enter Tryd.func21, Tryd.ntmps21
  go_wp2_with fail
  refine bodyPost_ret (results_ctt rfl _ _ w.heap.size 35 cells0 (0, 0) _ rfl (blk_new _ _) Tryd.underlying35 rfl (by kernel_rfl)) rfl ?_
  exact ⟨rfl, (Below.refl _ w).alloc (Nat.le_refl _) _⟩
theorem says_calls (k : Nat) (a0 : ByteArray) (r1 : Int) (r2 : Int) (r3 : List Int) (r4 : List Int) (r5 : Bool) (w : World) (h : says k a0 = some (r1, r2, r3, r4, r5)) :
    Calls Tryd.prog 21 #[.string a0] w fun e w' => ∃ v2_ v3_ : Value, e = .returned (.tuple #[.agg #[.int .i64 r1, .int .i64 r2, v2_], v3_, .bool r5]) ∧ Kd.R (Kd.int .u8) 5 w' w.heap.size (fun k_ => some k_ ≠ (v3_ : Value).ownBlock) v2_ r3 ∧ Kd.R (Kd.int .u8) 5 w' w.heap.size (fun k_ => some k_ ≠ (v2_ : Value).ownBlock) v3_ r4 ∧ Below w.heap.size w w' := by
  unfold says at h
  by_cases hs : a0.size ≤ 42
  · rw [if_pos hs] at h
    obtain ⟨⟨q1, q2, q3, q4⟩, hq, h⟩ := Option.bind_eq_some_iff.mp h
    simp only [Option.some.injEq, Prod.mk.injEq] at h
    obtain ⟨rfl, rfl, rfl, rfl, rfl⟩ := h
    exact read_walk k a0 hs q1 q2 q3 q4 w hq
  · rw [if_neg hs] at h
    simp only [Option.some.injEq, Prod.mk.injEq] at h
    obtain ⟨rfl, rfl, rfl, rfl, rfl⟩ := h
    refine (long_walk a0 (by omega) w).mono ?_
    rintro e w' ⟨rfl, hb⟩
    exact ⟨_, _, rfl, Kd.R_nil _ _ _ _ _, Kd.R_nil _ _ _ _ _, hb⟩
end Go.Proofs.YtolopkjpodnmkaaDoor.ReadLab
