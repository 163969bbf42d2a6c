/- The program's word to a state that has been found, walked. Conditions: a record of no more than 1000 states. -/
import Derived.Test.YtjeimidekekklaaDoorCountL
import Derived.Test.YtjeimidekekklaaDoorShelfR
import Derived.Deep.CutBlock
import Derived.Lib.ConvBytes
import Derived.Laws.IdiomStrings
import Derived.Carry
namespace Go.Proofs.YtjeimidekekklaaDoor.WordR
open Go.Lib (hid)
open Go.RowKit Go.Sort Go.Proofs.YtjeimidekekklaaDoorW.PrintWords Go.Proofs.YtjeimidekekklaaDoorW.PrintLast Go.Proofs.YtjeimidekekklaaDoor.ReachR
open Go.Proofs.YtjeimidekekklaaDoor.Reach (St frm)
open Go.Proofs.YtjeimidekekklaaDoor.Reached (byt)
set_option linter.unusedVariables false
set_option linter.unusedSimpArgs false

def bytB (d : Nat) : UInt8 := if d = 0 then 110 else if d = 1 then 101 else if d = 2 then 115 else 119
theorem bytB_nat (d : Nat) : ((bytB d).toNat : Int) = byt d := by
 unfold bytB byt
 by_cases h0 : d = 0
 ·rw [if_pos h0, if_pos h0]; rfl
 ·rw [if_neg h0, if_neg h0]
  by_cases h1 : d = 1
  ·rw [if_pos h1, if_pos h1]; rfl
  ·rw [if_neg h1, if_neg h1]
   by_cases h2 : d = 2
   ·rw [if_pos h2, if_pos h2]; rfl
   ·rw [if_neg h2, if_neg h2]; rfl
def textOf (w : List Nat) : ByteArray := ⟨(w.map bytB).toArray⟩
def wordS (w : List Nat) : ByteArray := if w.length ≤ 60 then textOf w else ⟨#[]⟩
theorem lastD_snoc (w : List Nat) (d : Nat) : lastD (w ++ [d]) = byt d := by
 unfold lastD byt
 simp
abbrev encB (b : UInt8) : Value := .int .u8 b.toNat
theorem grown_row {w : World} {g n : Nat} (d : Array UInt8) : w.grownBy (putRow encB (Sort.ahead w n) g 0 d) (some g) :=
 ⟨rfl, rfl, rfl, by simp [putRow, mapBlock, Sort.ahead], fun k _ hne => by
  have : k ≠ g := fun e => hne (by rw [e])
  simp [putRow, mapBlock, Sort.ahead, Array.getElem?_modify, Ne.symm this]⟩
theorem holds_R {w wr : World} {g c n : Nat} {l : List UInt8} (h : Kd.R (Kd.int .u8) 5 wr w.heap.size (fun _ => True) (.slice (some ⟨g, 0, none⟩) n c) (l.map fun b => (b.toNat : Int))) : Holds encB wr g 0 l.toArray := by
 intro j hj
 have hj' : j < l.length := by simpa using hj
 have hn := (Kd.R_reads' h).1
 rw [List.length_map] at hn
 obtain ⟨ce, hcl, hM, hcc, hfr⟩ := Kd.R_elem h 0 (j : Int) (by omega) (by omega)
 have hg : (l.map fun b => ((b.toNat : Nat) : Int)).getD (j : Int).toNat 0 = (l[j].toNat : Int) := by
  rw [Int.toNat_natCast, List.getD_eq_getElem?_getD, List.getElem?_map, List.getElem?_eq_getElem hj']
  rfl
 rw [hg] at hM
 have hce : ce = [.int .u8 (l[j].toNat : Int)] := hM
 subst hce
 rw [Nat.zero_add]
 have h1 := hcc 0 _ rfl
 have h2 := hfr 0
 simp only [Int.toNat_natCast] at h1 h2
 have e : j * (Kd.int .u8).sz + 0 = j := by
  show j * 1 + 0 = j
  omega
 rw [e] at h1 h2
 refine ⟨?_, h2⟩
 rw [h1]
 simp [List.getElem?_eq_getElem hj']
theorem nil_R {α : Type} (d : Kd α) {W : World} {base g e : Nat} (hg : base ≤ g) (hb : W.heap[g]? = some (.cells #[] e (0, 0))) : d.R e W base (fun _ => True) (.slice (some ⟨g, 0, none⟩) 0 0) ([] : List α) :=
 ⟨fun _ _ => trivial, [], ⟨by simp, .inr ⟨g, 0, #[], rfl, hg, hb, Nat.le_refl _, by decide, by simp, by simp⟩⟩, ⟨by simp, fun j p hj => by simp at hj⟩⟩
theorem reverse_calls {w wr : World} {g c n : Nat} {l : List UInt8} (hH : Holds encB wr g 0 l.toArray) (hb : Below w.heap.size w wr) (hg : w.heap.size ≤ g) (hl : l.length ≤ 1000) (hn : n = l.length) :
  Calls Tryd.prog 50 #[.slice (some ⟨g, 0, none⟩) n c] wr fun e w' => e = .returned (.tuple #[]) ∧ Below w.heap.size w w' ∧
   (convert 36 9 (.slice (some ⟨g, 0, none⟩) n c)).run Tryd.prog w' = .ok (.string ⟨l.reverse.toArray⟩) w' := by
 subst hn
 refine (AnyE.slices_Reverse Tryd.laysRev encB (fun _ => rfl) g 0 c l wr hH (by omega)).mono ?_
 rintro e w' ⟨rfl, q, rfl⟩
 refine ⟨rfl, hb.grown (grown_row _) hb.size (fun k hk => by cases hk; exact hg), ?_⟩
 have hh : Holds encB (putRow encB (Sort.ahead wr q) g 0 l.reverse.toArray) g 0 l.reverse.toArray :=
  holds_putRow encB _ g 0 l.toArray _ (holds_ahead encB wr q g 0 l.toArray hH) (by simp)
 have hr : l.length = l.reverse.length := by rw [List.length_reverse]
 rw [hr]
 refine run_convert_bytes_back _ _ _ 5 _ c l.reverse Tryd.underlying36 Tryd.underlying5 Tryd.underlying9 (fun j hj => ?_)
 have := (hh j (by simpa using hj)).1
 rw [add_plain]
 rw [Nat.zero_add] at this
 rw [this]
 simp at hj
 simp [hj]
theorem infoB : (Tryd.prog.info? 5).map (fun i => (i.zero, i.size, i.bytes)) = some (some (.int .u8 0), 1, 1) := by kernel_rfl
theorem word_short {mv : St → Nat → Option St} {s0 : St} {L : Bfs.Nodes St} (h : Bfs.Done mv s0 L) : ∀ (j : Nat) (x : St × List Nat), L[j]? = some x → x.2.length ≤ j := by
 intro j
 induction j using Nat.strongRecOn with
 | _ j ih =>
  intro x hx
  by_cases h0 : j = 0
  ·subst h0
   rw [h.root] at hx
   injection hx with hx
   subst hx
   exact Nat.le_refl _
  ·obtain ⟨p, d, y, h1, h3, _, _, h6⟩ := h.born j (by omega) x hx
   have := ih p h3 y h1
   rw [h6, List.length_append, List.length_singleton]
   omega
structure At (w wr : World) (L : Bfs.Nodes St) (wd0 : List Nat) (j : Nat) (v6 : Value) (suf : List Nat) : Prop where
 bel : Below w.heap.size w wr
 row : Kd.R (Kd.int .u8) 5 wr w.heap.size (fun _ => True) v6 (suf.reverse.map byt)
 form : ∃ g c, v6 = .slice (some ⟨g, 0, none⟩) suf.length c ∧ w.heap.size ≤ g
 at_ : ∃ u wd, L[j]? = some (u, wd) ∧ wd0 = wd ++ suf
set_option maxHeartbeats 4000000 in
set_option maxRecDepth 100000 in
theorem word_walk {mv : St → Nat → Option St} {s0 : St} (w0 w : World) (B M : Nat) (L : Bfs.Nodes St) (v0 v1 v2 v3 : Value) (h : RS w0 w B M L v0 v1 v2 v3) (hd : Bfs.Done mv s0 L) (hl : L.length ≤ 1000) (j0 : Nat) (u0 : St) (wd0 : List Nat) (hx0 : L[j0]? = some (u0, wd0)) :
  Calls Tryd.prog 38 #[.pointer (some ⟨B, 0, none⟩), .int .i64 (j0 : Int)] w fun e w' => e = .returned (.tuple #[.string (wordS wd0), .bool (decide (wd0.length ≤ 60))]) ∧ Below w.heap.size w w' := by
 have hj0 := (List.getElem?_eq_some_iff.1 hx0).1
 have hws := word_short hd j0 _ hx0
 obtain ⟨b1, c1, hv1, _, _⟩ := R_form h.r1 (by rw [List.length_map]; omega)
 obtain ⟨b2, c2, hv2, _, _⟩ := R_form h.r2 (by rw [List.length_map]; omega)
 rw [List.length_map] at hv1 hv2
 subst hv1 hv2
 have HRS := hid h
 have HD := hid hd
 have HL := hid hl
 have HX0 := hid hx0
 have HWS := hid (And.intro hws hj0)
 clear h hd hl hx0 hws hj0
 have HB := hid (Below.refl w.heap.size w)
 go_enter Tryd.func38, Tryd.ntmps38
 go_wp2_with fail
 go_loopw [1, 6] (fun v1 v6 wr => ∃ (j : Nat) (suf : List Nat), v1 = .int .i64 (j : Int) ∧ At w wr L wd0 j v6 suf) (fun v1 _ _ => (intOf v1).toNat)
 case atStart => exact ⟨j0, [], rfl, below_alloc HB.out _, nil_R _ (Nat.le_refl _) (blk_new w _), ⟨_, _, rfl, Nat.le_refl _⟩, ⟨u0, wd0, HX0.out, by simp⟩⟩
 case round =>
  clear HB
  obtain ⟨j, suf, rfl, hat⟩ := hrel
  have HB := hid hat.bel
  have R6 := hid hat.row
  obtain ⟨g6, c6, hv6, hg6⟩ := hat.form
  obtain ⟨u, wd, hx, hsp⟩ := hat.at_
  have hls : suf.length ≤ 1000 := by
   have h1 := HWS.out
   have h2 := HL.out
   rw [hsp, List.length_append] at h1
   omega
  clear hat
  by_cases hj : j = 0
  ·subst hj
   have hwd : wd = [] := (Reach.done_root mv HD.out hx).2 rfl
   subst hwd
   rw [List.nil_append] at hsp
   subst hsp
   have hbits : wd0.reverse.map byt = (wd0.reverse.map bytB).map fun b => (b.toNat : Int) := by
    rw [List.map_map]
    exact List.map_congr_left fun d _ => (bytB_nat d).symm
   have hR := R6.out
   rw [hbits, hv6] at hR
   have HV := hid (reverse_calls (w := w) (n := wd0.length) (c := c6) (l := wd0.reverse.map bytB) (holds_R hR) HB.out hg6 (by simpa using hls) (by simp))
   have htx : (wd0.reverse.map bytB).reverse = wd0.map bytB := by simp
   rw [htx] at HV
   subst hv6
   have HLS := hid hls
   clear hR hbits htx hx R6 HX0 HWS hls hg6
   go_wp2_with fail
   refine HV.out.mono ?_
   rintro e w3 ⟨rfl, hb3, hcc⟩
   have HB3 := hid hb3
   clear hb3 HB HV
   by_cases h60 : wd0.length ≤ 60
   ·have hg60 : ¬ (60 : Int) < (wd0.length : Int) := by omega
    have hfin : Ending.returned (.tuple #[.string ⟨(wd0.map bytB).toArray⟩, .bool true]) = Ending.returned (.tuple #[.string (wordS wd0), .bool (decide (wd0.length ≤ 60))]) := by
     rw [wordS, if_pos h60, decide_eq_true h60, textOf]
    go_wp2_with fail
    go_ret2
    exact ⟨hfin, HB3.out⟩
   ·have hg60 : (60 : Int) < (wd0.length : Int) := by omega
    have hfin : Ending.returned (.tuple #[.string ⟨#[]⟩, .bool false]) = Ending.returned (.tuple #[.string (wordS wd0), .bool (decide (wd0.length ≤ 60))]) := by
     rw [wordS, if_neg h60, decide_eq_false h60]
    clear hcc
    go_wp2_with fail
    go_ret2
    exact ⟨hfin, HB3.out⟩
  ·obtain ⟨p, d, y, hfr, hp, hpj, hd4, hmv, hw⟩ := Reach.frm_done mv HD.out (by omega) hx
   have hjl : j < L.length := (List.getElem?_eq_some_iff.1 hx).1
   have hfrm : (L.map (frm L))[j]? = some (p : Int) := by rw [List.getElem?_map, hx, Option.map_some, hfr]
   have HFR := hid hfrm
   have HPJ := hid hpj
   have HW := hid (show wd0 = y.2 ++ (d :: suf) by rw [hsp]; rw [show wd = y.2 ++ [d] from hw, List.append_assoc]; rfl)
   have HY := hid hp
   have hlast : lastD wd = byt d := by rw [show wd = y.2 ++ [d] from hw, lastD_snoc]
   have hrs := RS.below HRS.out HB.out
   have hc2 : wr.cell? ⟨B, 2, none⟩ = some (.slice (some ⟨b2, 0, none⟩) L.length c2) := blk_cell hrs.blk 2
   have hi2 := int_cell hrs.r2 j (byt d) (by rw [List.getElem?_map, hx, Option.map_some, hlast])
   obtain ⟨xs, hxs⟩ : ∃ xs, xs = suf.reverse.map byt := ⟨_, rfl⟩
   rw [← hxs] at R6
   subst hv6
   have HXL := hid (show xs.length ≤ 1000 by rw [hxs]; simpa using hls)
   have HXS := hid hxs
   have hj0 : (0 : Int) < (j : Int) := by omega
   have hj0' : (0 : Int) ≤ (j : Int) := by omega
   have hj1 : (j : Int) < (L.length : Int) := by omega
   clear hfr hp hpj hd4 hmv hw hfrm hlast hrs hxs hx hsp hg6 hls hjl hj
   go_wp2_with (first | ((with_reducible refine gate_builtin (b := .append) (xs := #[.tmp 17, .tmp 25]) rfl ?_); at_builtin; refine Kd.R_append (Kd.int .u8) (w0 := w) w.heap.size rfl (.tmp 17) (.tmp 25) 36 5 (.int .u8 0) 1 rfl Tryd.underlying36 infoB rfl (by decide) (by omega) (.slice (some ⟨g6, 0, none⟩) suf.length c6) xs (byt d) [.int .u8 (byt d)] (fun _ => True) (fun _ => False) rfl rfl ?aP (fun _ hk => hk.elim) ?aF ?aO ?aB ?aS ?aL ?_; (case aP => exact rfl); (case aB => exact (by repeat (first | (with_reducible first | exact HB.out | apply below_alloc | apply pw_below_drewN | apply below_drew1) | exact HB.out))); (case aF => exact (fun _ _ => trivial)); (case aO => exact (by (with_reducible repeat (first | apply Kd.R_alloc | apply Kd.R_drewN | apply Kd.R_drew)); exact R6.out)); (case aS => exact (below_size (by repeat (first | (with_reducible first | exact HB.out | apply below_alloc | apply pw_below_drewN | apply below_drew1) | exact HB.out)))); (case aL => have h_ := HXL.out; omega); intro v6' w2 ho hb hg hat; have n_HB := hid (hb); have n_R6 := hid (ho); (try clear HB); (try clear R6); have HB := n_HB; have R6 := n_R6; clear n_HB n_R6; clear ho hb hg hat; have hc1_ : w2.cell? ⟨B, 1, none⟩ = some (.slice (some ⟨b1, 0, none⟩) L.length c1) := blk_cell (RS.below HRS.out HB.out).blk 1; have hi1_ := int_cell (RS.below HRS.out HB.out).r1 j (p : Int) HFR.out))
   go_roundw
   case rel =>
    have hrow := R6.out
    have e : xs ++ [byt d] = (d :: suf).reverse.map byt := by rw [HXS.out]; simp
    rw [e] at hrow
    obtain ⟨g, c, hv, h1, _⟩ := R_form hrow (by simp)
    exact ⟨p, d :: suf, by go_num, HB.out, hrow, ⟨g, c, by rw [hv]; simp, h1⟩, ⟨y.1, y.2, HY.out, HW.out⟩⟩
   case measure =>
    have := HPJ.out
    simp [intOf]
    omega
end Go.Proofs.YtjeimidekekklaaDoor.WordR
