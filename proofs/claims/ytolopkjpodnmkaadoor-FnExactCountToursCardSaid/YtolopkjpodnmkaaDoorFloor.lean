/- The call that puts floor in place of all labels. Conditions: at most 100 rows of at most 1000 bytes. -/
import Derived.Test.YtolopkjpodnmkaaDoorByteRow
import Derived.Test.YtolopkjpodnmkaaDoorQBox
namespace Go.Proofs.YtolopkjpodnmkaaDoor.Floor
open Go.RowKit Go.Proofs.YtolopkjpodnmkaaDoorW.PrintWords Go.Proofs.YtolopkjpodnmkaaDoor.ByteRow
set_option linter.unusedVariables false
set_option linter.unusedSimpArgs false

def floorRow (b : ByteArray) : ByteArray := ⟨(b.data.toList.map unlab).toArray⟩
theorem digit_yes (c : UInt8) (h : 48 ≤ c.toNat ∧ c.toNat ≤ 57) : QBo.impl_isDigit.f (c.toNat : Int) = some true := by
  unfold QBo.impl_isDigit.f
  rw [if_pos (by omega), decide_eq_true (by omega)]
theorem digit_no (c : UInt8) (h : ¬ (48 ≤ c.toNat ∧ c.toNat ≤ 57)) : QBo.impl_isDigit.f (c.toNat : Int) = some false := by
  unfold QBo.impl_isDigit.f
  by_cases h1 : 48 ≤ c.toNat
  · rw [if_pos (by omega), decide_eq_false (by omega)]
  · rw [if_neg (by omega)]
theorem info_str : (Tryd.prog.info? 9).map (fun i => (i.zero, i.size, i.bytes)) = some (some (.string ⟨#[]⟩), 1, 16) := by kernel_rfl
theorem take_snoc (l : List ByteArray) (i : Nat) (h : i < l.length) : (l.take i).map floorRow ++ [floorRow l[i]] = (l.take (i + 1)).map floorRow := by
  rw [List.take_succ_eq_append_getElem h, List.map_append]
  rfl

set_option maxHeartbeats 4000000 in
set_option maxRecDepth 100000 in
theorem floor_walk (A0 : Option Addr) (c0 : Nat) (l0 : List ByteArray) (w : World) (hr0 : Kd.C Kd.string w A0 l0.length l0) (hc0 : l0.length ≤ c0) (hn : l0.length ≤ 100) (hs : ∀ r ∈ l0, r.size ≤ 1000) :
    Calls Tryd.prog 26 #[.slice A0 l0.length c0] w fun e w' => ∃ v0_ : Value, e = .returned v0_ ∧ Kd.R Kd.string 9 w' w.heap.size (fun _ => True) v0_ (l0.map floorRow) ∧ Below w.heap.size w w' := by
  obtain ⟨n, hnl⟩ : ∃ n, n = l0.length := ⟨_, rfl⟩
  rw [← hnl] at hr0 hc0 hn ⊢
  have HN := Go.Lib.hid hnl
  have HR := Go.Lib.hid hr0
  have HS := Go.Lib.hid hs
  clear hnl hr0 hs
  go_enter Tryd.func26, Tryd.ntmps26
  go_wp2_with ((with_reducible refine gate_dst (N := 9) rfl ?_); refine Kd.R_lit Kd.string (w0 := w) w.heap.size 9 ?hg (N := 9) ?hd (xs := []) (inner := []) (ok := fun _ => True) (okp := fun _ => True) ?hr ?hp (fun _ hk => hk) trivial (Below.refl _ _) (Nat.le_refl _) (by simp) ?_; (case hd => rfl); (case hg => rfl); (case hr => first | (go_simp; done) | (go_simp; rfl)); (case hp => exact (Reps.none _ _)); intro v9 w1 ho hb _ _; have HO := Go.Lib.hid ho; have HB := Go.Lib.hid hb; clear ho hb)
  go_loopw [3, 12] (fun v3 v12 wr => ∃ i : Nat, v12 = .int .i64 i ∧ i ≤ n ∧ Kd.R Kd.string 9 wr w.heap.size (fun _ => True) v3 ((l0.take i).map floorRow) ∧ Below w.heap.size w wr) (fun _ v12 _ => n - (intOf v12).toNat)
  case atStart => exact ⟨0, rfl, by omega, by simpa using HO.out, HB.out⟩
  case round =>
    clear HO HB
    obtain ⟨i, rfl, hi, ho, hb⟩ := hrel
    have HO := Go.Lib.hid ho
    have HB := Go.Lib.hid hb
    clear ho hb
    by_cases hlt : i < n
    · have hil : i < l0.length := by rw [← HN.out]; exact hlt
      obtain ⟨ad, rfl, hcell⟩ := Kd.at_string (Kd.C_below HR.out HB.out) (i : Int) (by omega) (by omega)
      obtain ⟨row, hrow⟩ : ∃ row, row = rdOf ByteArray.empty l0 (i : Int) := ⟨_, rfl⟩
      rw [← hrow, Int.toNat_natCast] at hcell
      have hrow2 : row = l0[i] := by rw [hrow]; simp [rdOf, hil]
      have hsz : row.size ≤ 1000 := by rw [hrow2]; exact HS.out _ (List.getElem_mem hil)
      obtain ⟨cap, wb, z, hconv, hst⟩ := ByteRow.start row wr
      have HST := Go.Lib.hid hst
      have HRW := Go.Lib.hid hrow2
      clear hrow hrow2 hst
      obtain ⟨m, hm⟩ : ∃ m, m = row.size := ⟨_, rfl⟩
      rw [← hm] at hconv hsz
      have HM := Go.Lib.hid hm
      clear hm
      obtain ⟨A3, c3, rfl⟩ := Kd.R_slice HO.out
      have hl3 : ((l0.take i).map floorRow).length = i := by simp; omega
      rw [hl3] at HO ⊢
      clear hl3
      go_wp2_with fail
      go_loopw [20] (fun v20 wx => ∃ j : Nat, v20 = .int .i64 j ∧ j ≤ m ∧ St wr wx wr.heap.size (ByteRow.part j row.data.toList) z) (fun v20 _ => m - (intOf v20).toNat)
      case atStart => exact ⟨0, rfl, by omega, by rw [part_none]; exact HST.out⟩
      case round =>
        obtain ⟨j, rfl, hj, hst⟩ := hrel
        have HT := Go.Lib.hid hst
        clear hst
        by_cases hlt2 : j < m
        · have hjl : j < row.data.toList.length := by show j < row.size; rw [← HM.out]; exact hlt2
          obtain ⟨c, hce⟩ : ∃ c, c = row.data.toList.getD j 0 := ⟨_, rfl⟩
          have hr := HT.out.read j (by rw [part_length]; exact hjl)
          rw [part_at _ _ hjl, ← hce] at hr
          have HJ := Go.Lib.hid hjl
          have HC := Go.Lib.hid hce
          clear hjl hce
          by_cases hd : 48 ≤ c.toNat ∧ c.toNat ≤ 57
          · have HQ := Go.Lib.hid (digit_yes c hd)
            have hu : unlab c = 46 := by unfold unlab; rw [if_pos hd]
            have HU := Go.Lib.hid hu
            clear hd hu
            go_wp2_with fail
            refine (QBo.impl_isDigit.calls (c.toNat : Int) true _ HQ.out).mono ?_
            rintro e w2 ⟨rfl, hdr⟩
            have ht2 := HT.out.below hdr.below
            have hf := ht2.open_ j (by rw [part_length]; exact HJ.out)
            have hr2 := ht2.read j (by rw [part_length]; exact HJ.out)
            have hset := ht2.set j (by rw [part_length]; exact HJ.out) (unlab c)
            rw [HC.out, part_set _ _ HJ.out, ← HC.out, HU.out] at hset
            have HE := Go.Lib.hid hset
            clear ht2 hset hdr
            go_wp2_with fail
            go_roundw
            case rel => exact ⟨j + 1, by go_num, by omega, HE.out⟩
            case measure => simp [intOf]; omega
          · have HQ := Go.Lib.hid (digit_no c hd)
            have HD := Go.Lib.hid hd
            clear hd
            go_wp2_with fail
            refine (QBo.impl_isDigit.calls (c.toNat : Int) false _ HQ.out).mono ?_
            rintro e w2 ⟨rfl, hdr⟩
            have ht2 := HT.out.below hdr.below
            rw [part_keep _ _ HJ.out (by rw [← HC.out]; exact HD.out)] at ht2
            have HE := Go.Lib.hid ht2
            clear ht2 hdr
            go_wp2_with fail
            go_roundw
            case rel => exact ⟨j + 1, by go_num, by omega, HE.out⟩
            case measure => simp [intOf]; omega
        · obtain rfl : j = m := by omega
          have hml : row.data.toList.length = j := HM.out.symm
          have hbk := ByteRow.back (cap := cap) HT.out j (by rw [part_length, hml])
          have he : ByteRow.part j row.data.toList = row.data.toList.map unlab := by rw [← hml, part_all]
          rw [he] at hbk
          obtain ⟨ts, hts⟩ : ∃ ts : ByteArray, ts = ⟨(row.data.toList.map unlab).toArray⟩ := ⟨_, rfl⟩
          rw [← hts] at hbk
          have HTS := Go.Lib.hid hts
          clear hts hml he
          have ho2 := Kd.R_below HO.out HT.out.bel
          have hb2 := below_then HB.out HB.out.size HT.out.bel
          have hsz2 := hb2.size
          have HO2 := Go.Lib.hid ho2
          have HB2 := Go.Lib.hid hb2
          clear ho2 hb2
          have hlen : ((l0.take i).map floorRow).length ≤ 100 := by simp; omega
          go_wp2_with ((with_reducible refine gate_builtin (b := .append) (xs := #[.tmp 31, .tmp 34]) rfl ?_); at_builtin; refine Kd.R_append Kd.string (w0 := w) w.heap.size rfl (.tmp 31) (.tmp 34) 45 9 (.string ⟨#[]⟩) 16 rfl Tryd.underlying45 info_str rfl (by decide) (by omega) (.slice A3 i c3) ((l0.take i).map floorRow) ts [.string ts] (fun _ => True) (fun _ => False) rfl rfl ?aP (fun _ hk => hk.elim) ?aF ?aO ?aB ?aS ?aL ?_; (case aP => exact rfl); (case aF => exact fun k hk => trivial); (case aO => exact HO2.out); (case aB => exact HB2.out); (case aS => exact hsz2); (case aL => omega); intro v4 w4 ho hb hg hat; have HO4 := Go.Lib.hid ho; have HB4 := Go.Lib.hid hb; clear ho hb hg hat)
          go_roundw
          case rel =>
            refine ⟨i + 1, by go_num, by omega, ?_, HB4.out⟩
            have ho := HO4.out
            rw [HTS.out, HRW.out] at ho
            rw [← take_snoc l0 i (by rw [← HN.out]; exact hlt)]
            exact ho
          case measure => simp [intOf]; omega
    · obtain rfl : i = n := by omega
      obtain ⟨A3, c3, rfl⟩ := Kd.R_slice HO.out
      have he : l0.take i = l0 := by rw [HN.out, List.take_length]
      have HE := Go.Lib.hid he
      clear he
      go_wp2_with fail
      go_ret
      refine ⟨_, rfl, ?_, HB.out⟩
      have ho := HO.out
      rw [HE.out] at ho ⊢
      exact ho

def says (l0 : List ByteArray) : Option (List ByteArray) := if l0.length ≤ 100 ∧ (l0.all fun r => decide (r.size ≤ 1000)) = true then some (l0.map floorRow) else none
theorem says_calls (A0 : Option Addr) (c0 : Nat) (l0 : List ByteArray) (r : List ByteArray) (w : World) (hr0 : Kd.C Kd.string w A0 l0.length l0) (hc0 : l0.length ≤ c0) (h : says l0 = some r) :
    Calls Tryd.prog 26 #[.slice A0 l0.length c0] w fun e w' => ∃ v0_ : Value, e = .returned (v0_) ∧ Kd.R Kd.string 9 w' w.heap.size (fun _ => True) v0_ r ∧ Below w.heap.size w w' := by
  unfold says at h
  by_cases hc : l0.length ≤ 100 ∧ (l0.all fun r => decide (r.size ≤ 1000)) = true
  · rw [if_pos hc] at h
    obtain rfl := Option.some.inj h
    exact floor_walk A0 c0 l0 w hr0 hc0 hc.1 (fun r hr => by simpa using List.all_eq_true.1 hc.2 r hr)
  · rw [if_neg hc] at h
    cases h
end Go.Proofs.YtolopkjpodnmkaaDoor.Floor
