/- The call of OrderOfRolls: after how many times a word leads back to the die it began with. -/
import Derived.Test.YtfcifidjjbknaaaDoorBack
import Derived.Test.YtfcifidjjbknaaaDoorShortWords
namespace Go.Proofs.YtfcifidjjbknaaaDoor.Order
open Go.RowKit Go.Proofs.YtfcifidjjbknaaaDoorW.PrintWords Go.Proofs.YtfcifidjjbknaaaDoor.Words Go.Proofs.YtfcifidjjbknaaaDoor.Rolled Go.Proofs.YtfcifidjjbknaaaDoor.Dirs Go.Proofs.YtfcifidjjbknaaaDoor.DieKey
open Go.Proofs.YtfcifidjjbknaaaDoor.Dice (Die roll rolled plain act table)
attribute [local go_sem high] eqA
set_option linter.unusedVariables false
set_option linter.unusedSimpArgs false

def it (s : ByteArray) : Nat → Die
  | 0 => plain
  | n + 1 => rolled (it s n) (dirs s)
def pw (p : Die) : Nat → Die
  | 0 => plain
  | n + 1 => act (pw p n) p
theorem it_pw (s : ByteArray) : ∀ n, it s n = pw (rolled plain (dirs s)) n
  | 0 => rfl
  | n + 1 => by rw [it, Dice.rolled_act, it_pw s n, pw]
def ordP (p : Die) : Nat := if pw p 1 = plain then 1 else if pw p 2 = plain then 2 else if pw p 3 = plain then 3 else 4
theorem ord_table : ∀ x ∈ table, pw x.1 (ordP x.1) = plain := by decide +kernel
def ord (s : ByteArray) : Nat := ordP (rolled plain (dirs s))
theorem ord_some (s : ByteArray) : 1 ≤ ord s ∧ ord s ≤ 4 := by
  unfold ord ordP
  split
  · omega
  · split
    · omega
    · split <;> omega
theorem ord_end (s : ByteArray) : it s (ord s) = plain := by
  rw [it_pw]
  have h := Dice.ways (dirs s) (dirs_small s) _ Dice.plain_in
  rw [Bfs.has_iff] at h
  obtain ⟨w, hw⟩ := h
  exact ord_table _ hw
theorem ord_least (s : ByteArray) (n : Nat) (h1 : 1 ≤ n) (h2 : n < ord s) : it s n ≠ plain := by
  rw [it_pw]
  unfold ord ordP at h2
  by_cases a1 : pw (rolled plain (dirs s)) 1 = plain
  · rw [if_pos a1] at h2
    omega
  rw [if_neg a1] at h2
  by_cases a2 : pw (rolled plain (dirs s)) 2 = plain
  · rw [if_pos a2] at h2
    obtain rfl : n = 1 := by omega
    exact a1
  rw [if_neg a2] at h2
  by_cases a3 : pw (rolled plain (dirs s)) 3 = plain
  · rw [if_pos a3] at h2
    rcases (show n = 1 ∨ n = 2 by omega) with rfl | rfl
    · exact a1
    · exact a2
  rw [if_neg a3] at h2
  rcases (show n = 1 ∨ n = 2 ∨ n = 3 by omega) with rfl | rfl | rfl
  · exact a1
  · exact a2
  · exact a3

abbrev six (d : Die) : Array Value := #[.int .i64 d.t, .int .i64 d.n, .int .i64 d.e, .int .i64 d.s, .int .i64 d.w, .int .i64 d.b]
/-- The die of the loop, in a block of the call's own. -/
structure At (w0 wr : World) (B : Nat) (d : Die) : Prop where
  bel : Below w0.heap.size w0 wr
  big : w0.heap.size ≤ B
  blk : wr.heap[B]? = some (.cells (six d) 25 (0, 0))

set_option maxHeartbeats 4000000 in
set_option maxRecDepth 100000 in
theorem order_walk (s : ByteArray) (hs : s.size ≤ 1048576) (w : World) : Calls Tryd.prog 10 #[.string s] w fun e w' =>
    e = .returned (.tuple #[.int .i64 (if goodWord s = true then (ord s : Int) else 0), .bool (goodWord s)]) ∧ Below w.heap.size w w' := by
  have hro := Back.rolls_calls s hs w
  cases hg : goodWord s with
  | false =>
    rw [hg] at hro
    rw [if_neg (by decide)]
    have HR := Go.Lib.hid hro
    clear hro hg
    go_enter Tryd.func10, Tryd.ntmps10
    go_wp2_with fail
    refine HR.out.mono ?_
    rintro e w1 ⟨rfl, hb⟩
    have HB := Go.Lib.hid hb
    clear hb
    go_wp2_with fail
    go_ret2
    exact ⟨rfl, HB.out⟩
  | true =>
    rw [hg] at hro
    rw [if_pos rfl]
    have HR := Go.Lib.hid hro
    have HD := Go.Lib.hid (fun d w => rolled_calls d s (by omega) w)
    have hm4 := (ord_some s).2
    have hm1 := (ord_some s).1
    obtain ⟨M, hM⟩ : ∃ M, M = ord s := ⟨_, rfl⟩
    rw [← hM] at hm4 hm1 ⊢
    have HM := Go.Lib.hid hM
    clear hro hg hM
    go_enter Tryd.func10, Tryd.ntmps10
    go_wp2_with fail
    refine HR.out.mono ?_
    rintro e w1 ⟨rfl, hb⟩
    have HB := Go.Lib.hid hb
    clear hb
    go_wp2_with fail
    refine (ShortWords.plain_calls _).mono ?_
    rintro e w2 ⟨rfl, rfl⟩
    go_wp2_with fail
    refine (HD.out plain _).mono ?_
    rintro e w3 ⟨rfl, hb⟩
    have HB3 := Go.Lib.hid (below_then (HB.out.alloc HB.out.size (.cells #[.int .i64 0, .int .i64 1, .int .i64 2, .int .i64 3, .int .i64 4, .int .i64 5] 25)) (by have := HB.out.size; simp; omega) hb)
    clear hb HB
    go_wp2_with fail
    go_loopw [4, 5] (fun v4 v5 wr => ∃ (n : Nat) (B : Nat), v4 = .int .i64 n ∧ v5 = .pointer (some ⟨B, 0, none⟩) ∧ 1 ≤ n ∧ n ≤ M ∧ At w wr B (it s n)) (fun v4 _ _ => M - (intOf v4).toNat)
    case atStart => exact ⟨1, w3.heap.size, rfl, rfl, Nat.le_refl _, hm1, HB3.out.alloc HB3.out.size _, HB3.out.size, blk_new _ _⟩
    case round =>
      clear HB3
      obtain ⟨n, B, rfl, rfl, h1, hnM, hat⟩ := hrel
      have HA := Go.Lib.hid hat
      clear hat
      obtain ⟨d, hd⟩ : ∃ d, d = it s n := ⟨_, rfl⟩
      rw [← hd] at HA
      have hlt : B < wr.heap.size := (Array.getElem?_eq_some_iff.1 HA.out.blk).1
      have c0 : wr.cell? ⟨B, 0, none⟩ = some (.int .i64 d.t) := blk_cell HA.out.blk 0
      have c1 : wr.cell? ⟨B, 1, none⟩ = some (.int .i64 d.n) := blk_cell HA.out.blk 1
      have c2 : wr.cell? ⟨B, 2, none⟩ = some (.int .i64 d.e) := blk_cell HA.out.blk 2
      have c3 : wr.cell? ⟨B, 3, none⟩ = some (.int .i64 d.s) := blk_cell HA.out.blk 3
      have c4 : wr.cell? ⟨B, 4, none⟩ = some (.int .i64 d.w) := blk_cell HA.out.blk 4
      have c5 : wr.cell? ⟨B, 5, none⟩ = some (.int .i64 d.b) := blk_cell HA.out.blk 5
      have hne : B ≠ wr.heap.size := by omega
      have HDn := Go.Lib.hid hd
      clear hd
      by_cases he : d = plain
      · obtain rfl : n = M := by
          apply Classical.byContradiction
          intro hne2
          exact ord_least s n h1 (by rw [← HM.out]; omega) (by rw [← HDn.out]; exact he)
        have HE := Go.Lib.hid he
        have q0 : d.t = 0 := by rw [he]; rfl
        have q1 : d.n = 1 := by rw [he]; rfl
        have q2 : d.e = 2 := by rw [he]; rfl
        have q3 : d.s = 3 := by rw [he]; rfl
        have q4 : d.w = 4 := by rw [he]; rfl
        have q5 : d.b = 5 := by rw [he]; rfl
        rw [q0] at c0
        rw [q1] at c1
        rw [q2] at c2
        rw [q3] at c3
        rw [q4] at c4
        rw [q5] at c5
        clear q0 q1 q2 q3 q4 q5 he
        go_wp2_with fail
        go_region_with (first | (go_at_call 30; refine (ShortWords.plain_calls _).mono ?_; rintro e w' ⟨rfl, rfl⟩))
        all_goals go_wp2_with fail
        all_goals go_ret2
        all_goals refine ⟨rfl, ?_⟩
        all_goals repeat (first | (with_reducible first | exact HA.out.bel | apply below_alloc | apply pw_below_drewN | apply below_drew1 | apply below_drew) | exact HA.out.bel)
      · have hb : (d.t == 0 && (d.n == 1 && (d.e == 2 && (d.s == 3 && (d.w == 4 && (d.b == 5)))))) = false := (beqDie d plain).trans (decide_eq_false he)
        have hb2 : (!(d.t == 0) || (!(d.n == 1) || (!(d.e == 2) || (!(d.s == 3) || (!(d.w == 4) || (!(d.b == 5))))))) = true := by
          rw [← Bool.not_and, ← Bool.not_and, ← Bool.not_and, ← Bool.not_and, ← Bool.not_and, hb]
          rfl
        have HE := Go.Lib.hid he
        clear he
        go_wp2_with fail
        go_region_with (first | (go_at_call 30; refine (ShortWords.plain_calls _).mono ?_; rintro e w' ⟨rfl, rfl⟩))
        all_goals go_wp2_with fail
        all_goals
          refine (HD.out d _).mono ?_
          rintro e w5 ⟨rfl, hb5⟩
          have b5 : w5.heap[wr.heap.size + 1]? = some (.cells (six d) 25) := by
            have := blk_below (blk_drew (blk_new (wr.alloc (.cells #[.int .i64 0, .int .i64 1, .int .i64 2, .int .i64 3, .int .i64 4, .int .i64 5] 25)) (.cells (six d) 25))) hb5
            simpa using this
          have hsz := HA.out.bel.size
          have hbig : w.heap.size ≤ wr.heap.size + 1 := by omega
          have HB5 := Go.Lib.hid (below_then (((HA.out.bel.alloc hsz (.cells #[.int .i64 0, .int .i64 1, .int .i64 2, .int .i64 3, .int .i64 4, .int .i64 5] 25)).alloc (by simp; omega) (.cells (six d) 25)).drew) (by simp; omega) hb5)
          have k0 : w5.cell? ⟨wr.heap.size + 1, 0, none⟩ = some (.int .i64 d.t) := blk_cell b5 0
          have f0 := blk_frozen b5 0
          have k1 : w5.cell? ⟨wr.heap.size + 1, 1, none⟩ = some (.int .i64 d.n) := blk_cell b5 1
          have f1 := blk_frozen b5 1
          have k2 : w5.cell? ⟨wr.heap.size + 1, 2, none⟩ = some (.int .i64 d.e) := blk_cell b5 2
          have f2 := blk_frozen b5 2
          have k3 : w5.cell? ⟨wr.heap.size + 1, 3, none⟩ = some (.int .i64 d.s) := blk_cell b5 3
          have f3 := blk_frozen b5 3
          have k4 : w5.cell? ⟨wr.heap.size + 1, 4, none⟩ = some (.int .i64 d.w) := blk_cell b5 4
          have f4 := blk_frozen b5 4
          have k5 : w5.cell? ⟨wr.heap.size + 1, 5, none⟩ = some (.int .i64 d.b) := blk_cell b5 5
          have f5 := blk_frozen b5 5
          have B5 := Go.Lib.hid b5
          have hnM2 : n < M := by
            apply Classical.byContradiction
            intro hge
            have e : n = M := by omega
            rw [e, HM.out, ord_end] at HDn
            exact HE.out HDn.out
          clear b5 hb5 hb hb2 c0 c1 c2 c3 c4 c5 hsz
          go_wp2_with fail
          have b5 := B5.out
          go_roundw
          case rel => exact ⟨n + 1, wr.heap.size + 1, by go_num, rfl, by omega, by omega, (Below.setCell (p := ⟨wr.heap.size + 1, 5, none⟩) (Below.setCell (p := ⟨wr.heap.size + 1, 4, none⟩) (Below.setCell (p := ⟨wr.heap.size + 1, 3, none⟩) (Below.setCell (p := ⟨wr.heap.size + 1, 2, none⟩) (Below.setCell (p := ⟨wr.heap.size + 1, 1, none⟩) (Below.setCell (p := ⟨wr.heap.size + 1, 0, none⟩) HB5.out hbig _) hbig _) hbig _) hbig _) hbig _) hbig _), hbig, by
            rw [it, ← HDn.out]
            exact (blk_put (cs' := #[.int .i64 (rolled d (dirs s)).t, .int .i64 (rolled d (dirs s)).n, .int .i64 (rolled d (dirs s)).e, .int .i64 (rolled d (dirs s)).s, .int .i64 (rolled d (dirs s)).w, .int .i64 (rolled d (dirs s)).b]) (blk_put (cs' := #[.int .i64 (rolled d (dirs s)).t, .int .i64 (rolled d (dirs s)).n, .int .i64 (rolled d (dirs s)).e, .int .i64 (rolled d (dirs s)).s, .int .i64 (rolled d (dirs s)).w, .int .i64 d.b]) (blk_put (cs' := #[.int .i64 (rolled d (dirs s)).t, .int .i64 (rolled d (dirs s)).n, .int .i64 (rolled d (dirs s)).e, .int .i64 (rolled d (dirs s)).s, .int .i64 d.w, .int .i64 d.b]) (blk_put (cs' := #[.int .i64 (rolled d (dirs s)).t, .int .i64 (rolled d (dirs s)).n, .int .i64 (rolled d (dirs s)).e, .int .i64 d.s, .int .i64 d.w, .int .i64 d.b]) (blk_put (cs' := #[.int .i64 (rolled d (dirs s)).t, .int .i64 (rolled d (dirs s)).n, .int .i64 d.e, .int .i64 d.s, .int .i64 d.w, .int .i64 d.b]) (blk_put (cs' := #[.int .i64 (rolled d (dirs s)).t, .int .i64 d.n, .int .i64 d.e, .int .i64 d.s, .int .i64 d.w, .int .i64 d.b]) b5 0 _ rfl) 1 _ rfl) 2 _ rfl) 3 _ rfl) 4 _ rfl) 5 _ rfl)⟩
          case measure => simp [intOf]; omega
end Go.Proofs.YtfcifidjjbknaaaDoor.Order
