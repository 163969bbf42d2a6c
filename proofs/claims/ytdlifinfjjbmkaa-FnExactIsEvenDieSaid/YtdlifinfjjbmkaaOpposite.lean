/- The call of OppositeOf: the number opposite to the one face with a number. -/
import Derived.Test.YtdlifinfjjbmkaaIsDie
import Derived.IntWalk
namespace Go.Proofs.Ytdlifinfjjbmkaa.Opposite
open Go.RowKit Go.Proofs.YtdlifinfjjbmkaaW.PrintWords Go.Proofs.Ytdlifinfjjbmkaa.IsDie
set_option linter.unusedVariables false
set_option linter.unusedSimpArgs false

/-- The place opposite to a place. -/
def opp (i : Nat) : Nat := if i = 0 then 5 else if i = 1 then 3 else if i = 2 then 4 else if i = 3 then 1 else if i = 4 then 2 else 0
/-- What has been found among the first places: the number opposite to the last hit, and how many hits there were. -/
def look (f : List Int) (x : Int) : Nat → Int × Nat
  | 0 => (0, 0)
  | i + 1 => if f.getD i 0 = x then (f.getD (opp i) 0, (look f x i).2 + 1) else look f x i
theorem look_le (f : List Int) (x : Int) : ∀ i, (look f x i).2 ≤ i
  | 0 => Nat.le_refl _
  | i + 1 => by
    have := look_le f x i
    unfold look
    split <;> simp <;> omega

def oppSays (a0 a1 a2 a3 a4 a5 x : Int) : Int × Bool :=
  if good a0 a1 a2 a3 a4 a5 = true then (if (look [a0, a1, a2, a3, a4, a5] x 6).2 = 1 then ((look [a0, a1, a2, a3, a4, a5] x 6).1, true) else (0, false)) else (0, false)

theorem heap_alloc (w : World) (o : Obj) (k : Nat) : (w.alloc o).heap[k]? = if k = w.heap.size then some o else w.heap[k]? := by
  show (w.heap.push o)[k]? = _
  rw [Array.getElem?_push]
theorem isDie_true (a0 a1 a2 a3 a4 a5 : Int) (w : World) (h : good a0 a1 a2 a3 a4 a5 = true) : Calls Try.prog 19 #[.agg #[.int .i64 a0, .int .i64 a1, .int .i64 a2, .int .i64 a3, .int .i64 a4, .int .i64 a5]] w
    fun e w' => e = .returned (.bool true) ∧ Below w.heap.size w w' := by
  have := isDie_calls a0 a1 a2 a3 a4 a5 w
  rwa [h] at this
theorem isDie_false (a0 a1 a2 a3 a4 a5 : Int) (w : World) (h : good a0 a1 a2 a3 a4 a5 = false) : Calls Try.prog 19 #[.agg #[.int .i64 a0, .int .i64 a1, .int .i64 a2, .int .i64 a3, .int .i64 a4, .int .i64 a5]] w
    fun e w' => e = .returned (.bool false) ∧ Below w.heap.size w w' := by
  have := isDie_calls a0 a1 a2 a3 a4 a5 w
  rwa [h] at this

theorem opp_false (a0 a1 a2 a3 a4 a5 x : Int) (w : World) (h : good a0 a1 a2 a3 a4 a5 = false) : Calls Try.prog 26 #[.agg #[.int .i64 a0, .int .i64 a1, .int .i64 a2, .int .i64 a3, .int .i64 a4, .int .i64 a5], .int .i64 x] w
    fun e w' => e = .returned (.tuple #[.int .i64 0, .bool false]) ∧ Below w.heap.size w w' := by
  have hc := fun W => isDie_false a0 a1 a2 a3 a4 a5 W h
  have HC := Lib.hid hc
  clear hc h
  go_enter Try.func26, Try.ntmps26
  go_wp2_with fail
  refine (HC.out _).mono ?_
  rintro e w1 ⟨rfl, hb⟩
  have HB : Below w.heap.size w w1 := below_then ((Below.refl _ w).alloc (Nat.le_refl _) _) (by simp) hb
  have HB2 := Lib.hid HB
  clear HB hb
  go_wp2_with fail
  go_ret2
  exact ⟨rfl, HB2.out⟩

/-- The two rows that the loop reads. -/
structure Two (w wr : World) (F O : Nat) (f : List Int) : Prop where
  six : f.length = 6
  faces : ∀ j, j < 6 → wr.cell? ⟨F, j, none⟩ = some (.int .i64 (f.getD j 0))
  opps : ∀ j, j < 6 → wr.cell? ⟨O, j, none⟩ = some (.int .i64 (opp j : Nat))
  bel : Below w.heap.size w wr
theorem Two.reads {w wr : World} {F O : Nat} {f : List Int} (h : Two w wr F O f) (i : Nat) (hi : i < 6) :
    ∃ (y : Int) (o : Nat) (z : Int), o < 6 ∧ y = f.getD i 0 ∧ o = opp i ∧ z = f.getD o 0 ∧ wr.cell? ⟨F, i, none⟩ = some (.int .i64 y) ∧ wr.cell? ⟨O, i, none⟩ = some (.int .i64 (o : Nat)) ∧ wr.cell? ⟨F, o, none⟩ = some (.int .i64 z) := by
  have ho : opp i < 6 := by unfold opp; (repeat' split) <;> omega
  exact ⟨_, opp i, _, ho, rfl, rfl, rfl, h.faces i hi, h.opps i hi, h.faces _ ho⟩
theorem two_start {w w1 : World} {a0 a1 a2 a3 a4 a5 : Int} {c : Array Value} {tb tf tc : TypeId} (hb : Below w.heap.size w w1) :
    Two w (((w1.alloc (.cells c tb)).alloc (.cells #[.int .i64 a0, .int .i64 a1, .int .i64 a2, .int .i64 a3, .int .i64 a4, .int .i64 a5] tf)).alloc (.cells #[.int .i64 5, .int .i64 3, .int .i64 4, .int .i64 1, .int .i64 2, .int .i64 0] tc))
      (w1.heap.size + 1) (w1.heap.size + 1 + 1) [a0, a1, a2, a3, a4, a5] := by
  refine ⟨rfl, fun j hj => ?_, fun j hj => ?_, ((hb.alloc hb.size _).alloc (by have := hb.size; simp; omega) _).alloc (by have := hb.size; simp; omega) _⟩
  · have e : (((w1.alloc (.cells c tb)).alloc (.cells #[.int .i64 a0, .int .i64 a1, .int .i64 a2, .int .i64 a3, .int .i64 a4, .int .i64 a5] tf)).alloc (.cells #[.int .i64 5, .int .i64 3, .int .i64 4, .int .i64 1, .int .i64 2, .int .i64 0] tc)).heap[w1.heap.size + 1]? = some (.cells #[.int .i64 a0, .int .i64 a1, .int .i64 a2, .int .i64 a3, .int .i64 a4, .int .i64 a5] tf) := by
      rw [heap_alloc, if_neg (by simp), heap_alloc, if_pos (by simp)]
    rcases j with _ | _ | _ | _ | _ | _ | j <;> first | omega | (unfold World.cell?; rw [e]; rfl)
  · have e : (((w1.alloc (.cells c tb)).alloc (.cells #[.int .i64 a0, .int .i64 a1, .int .i64 a2, .int .i64 a3, .int .i64 a4, .int .i64 a5] tf)).alloc (.cells #[.int .i64 5, .int .i64 3, .int .i64 4, .int .i64 1, .int .i64 2, .int .i64 0] tc)).heap[w1.heap.size + 1 + 1]? = some (.cells #[.int .i64 5, .int .i64 3, .int .i64 4, .int .i64 1, .int .i64 2, .int .i64 0] tc) := by
      rw [heap_alloc, if_pos (by simp)]
    rcases j with _ | _ | _ | _ | _ | _ | j <;> first | omega | (unfold World.cell?; rw [e]; rfl)
theorem look_hit {f : List Int} {x y z q1 : Int} {q2 i o : Nat} (hq : (q1, q2) = look f x i) (hy : y = f.getD i 0) (hx : y = x) (ho : o = opp i) (hz : z = f.getD o 0) :
    look f x (i + 1) = (z, q2 + 1) := by
  rw [look, if_pos (by rw [← hy]; exact hx), ← hq, hz, ho]
theorem look_miss {f : List Int} {x y q1 : Int} {q2 i : Nat} (hq : (q1, q2) = look f x i) (hy : y = f.getD i 0) (hx : ¬ y = x) :
    look f x (i + 1) = (q1, q2) := by
  rw [look, if_neg (by rw [← hy]; exact hx), ← hq]
theorem opp_says {f : List Int} {a0 a1 a2 a3 a4 a5 x q1 : Int} {q2 : Nat} (hg : good a0 a1 a2 a3 a4 a5 = true) (hf : f = [a0, a1, a2, a3, a4, a5]) (hq : (q1, q2) = look f x 6) :
    oppSays a0 a1 a2 a3 a4 a5 x = if q2 = 1 then (q1, true) else (0, false) := by
  subst hf
  rw [oppSays, if_pos hg, ← hq]

set_option maxRecDepth 100000 in
set_option maxHeartbeats 4000000 in
theorem opp_true (a0 a1 a2 a3 a4 a5 x : Int) (w : World) (h : good a0 a1 a2 a3 a4 a5 = true) : Calls Try.prog 26 #[.agg #[.int .i64 a0, .int .i64 a1, .int .i64 a2, .int .i64 a3, .int .i64 a4, .int .i64 a5], .int .i64 x] w
    fun e w' => e = .returned (.tuple #[.int .i64 (oppSays a0 a1 a2 a3 a4 a5 x).1, .bool (oppSays a0 a1 a2 a3 a4 a5 x).2]) ∧ Below w.heap.size w w' := by
  have hc := fun W => isDie_true a0 a1 a2 a3 a4 a5 W h
  have HC := Lib.hid hc
  have HG := Lib.hid h
  clear hc h
  go_enter Try.func26, Try.ntmps26
  go_wp2_with fail
  refine (HC.out _).mono ?_
  rintro e w1 ⟨rfl, hb⟩
  have hbox : w1.heap[w.heap.size]? = some (.cells #[.int .i64 a0, .int .i64 a1, .int .i64 a2, .int .i64 a3, .int .i64 a4, .int .i64 a5] 26) := by
    rw [hb.block _ (by simp)]
    exact heap_last _ _ _ rfl
  have hc0 : w1.cell? ⟨w.heap.size, 0, none⟩ = some (.int .i64 a0) := by simp [World.cell?, hbox]
  have hc1 : w1.cell? ⟨w.heap.size, 1, none⟩ = some (.int .i64 a1) := by simp [World.cell?, hbox]
  have hc2 : w1.cell? ⟨w.heap.size, 2, none⟩ = some (.int .i64 a2) := by simp [World.cell?, hbox]
  have hc3 : w1.cell? ⟨w.heap.size, 3, none⟩ = some (.int .i64 a3) := by simp [World.cell?, hbox]
  have hc4 : w1.cell? ⟨w.heap.size, 4, none⟩ = some (.int .i64 a4) := by simp [World.cell?, hbox]
  have hc5 : w1.cell? ⟨w.heap.size, 5, none⟩ = some (.int .i64 a5) := by simp [World.cell?, hbox]
  have HB : Below w.heap.size w w1 := below_then ((Below.refl _ w).alloc (Nat.le_refl _) _) (by simp) hb
  have HB2 := Lib.hid HB
  clear HB hb hbox
  go_wp2_with fail
  refine (faces_calls _ _ _ _ _ _ _).mono ?_
  rintro e w2 ⟨rfl, rfl⟩
  clear hc0 hc1 hc2 hc3 hc4 hc5
  go_wp2_with fail
  go_loopw [8, 9, 20] (fun v8 v9 v20 wr => ∃ i : Nat, i ≤ 6 ∧ v20 = .int .i64 i ∧ v8 = .int .i64 (look [a0, a1, a2, a3, a4, a5] x i).1 ∧ v9 = .int .i64 ((look [a0, a1, a2, a3, a4, a5] x i).2 : Nat) ∧ Two w wr (w1.heap.size + 1) (w1.heap.size + 1 + 1) [a0, a1, a2, a3, a4, a5]) (fun _ _ v20 _ => 6 - (intOf v20).toNat)
  case atStart =>
    refine ⟨0, by omega, rfl, rfl, rfl, ?_⟩
    exact two_start HB2.out
  case round =>
    obtain ⟨i, hi, rfl, rfl, rfl, htwo⟩ := hrel
    have H2 := Lib.hid htwo
    clear htwo HC
    obtain ⟨f, hf⟩ : ∃ f, f = [a0, a1, a2, a3, a4, a5] := ⟨_, rfl⟩
    rw [← hf] at H2
    rw [← hf]
    have HF := Lib.hid hf
    clear hf
    by_cases h6 : i < 6
    · obtain ⟨y, o, z, ho6, hy, ho, hz, hcy, hco, hcz⟩ := H2.out.reads i h6
      obtain ⟨q, hq⟩ : ∃ q, q = look f x i := ⟨_, rfl⟩
      have hq6 := look_le f x i
      rw [← hq] at hq6
      rw [← hq]
      have HQ := Lib.hid hq
      have HY := Lib.hid hy
      have HO := Lib.hid ho
      have HZ := Lib.hid hz
      clear hq hy ho hz
      obtain ⟨q1, q2⟩ := q
      simp only at hq6
      by_cases hx : y = x
      · have hb : (y == x) = true := by simpa using hx
        have HX := Lib.hid hx
        clear hx
        go_wp2_with fail
        go_roundw
        case rel => exact ⟨i + 1, by omega, by go_num, by rw [look_hit HQ.out HY.out HX.out HO.out HZ.out], by rw [look_hit HQ.out HY.out HX.out HO.out HZ.out]; go_num, H2.out⟩
        case measure => simp [intOf]; omega
      · have hb : (y == x) = false := by simpa using hx
        have HX := Lib.hid hx
        clear hx
        go_wp2_with fail
        go_roundw
        case rel => exact ⟨i + 1, by omega, by go_num, by rw [look_miss HQ.out HY.out HX.out], by rw [look_miss HQ.out HY.out HX.out], H2.out⟩
        case measure => simp [intOf]; omega
    · obtain rfl : i = 6 := by omega
      obtain ⟨q, hq⟩ : ∃ q, q = look f x 6 := ⟨_, rfl⟩
      rw [← hq]
      have HQ := Lib.hid hq
      clear hq
      obtain ⟨q1, q2⟩ := q
      have hs := opp_says (x := x) HG.out HF.out HQ.out
      by_cases h1 : q2 = 1
      · rw [if_pos h1] at hs
        have HS := Lib.hid hs
        clear hs
        subst h1
        go_wp2_with fail
        go_ret2
        exact ⟨by rw [HS.out]; rfl, H2.out.bel⟩
      · rw [if_neg h1] at hs
        have HS := Lib.hid hs
        clear hs
        have hn : ((q2 : Int) != 1) = true := by simp; omega
        go_wp2_with fail
        go_ret2
        exact ⟨by rw [HS.out]; rfl, H2.out.bel⟩

theorem opp_calls (a0 a1 a2 a3 a4 a5 x : Int) (w : World) : Calls Try.prog 26 #[.agg #[.int .i64 a0, .int .i64 a1, .int .i64 a2, .int .i64 a3, .int .i64 a4, .int .i64 a5], .int .i64 x] w
    fun e w' => e = .returned (.tuple #[.int .i64 (oppSays a0 a1 a2 a3 a4 a5 x).1, .bool (oppSays a0 a1 a2 a3 a4 a5 x).2]) ∧ Below w.heap.size w w' := by
  cases h : good a0 a1 a2 a3 a4 a5 with
  | true => exact opp_true a0 a1 a2 a3 a4 a5 x w h
  | false =>
    have hs : oppSays a0 a1 a2 a3 a4 a5 x = (0, false) := by
      rw [oppSays, if_neg (by rw [h]; decide)]
    rw [hs]
    exact opp_false a0 a1 a2 a3 a4 a5 x w h
end Go.Proofs.Ytdlifinfjjbmkaa.Opposite
