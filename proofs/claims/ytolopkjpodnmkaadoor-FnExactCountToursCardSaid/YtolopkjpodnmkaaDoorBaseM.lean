/- Plain lemmas on the functions that the laws of boards share: the board read, states, rolls, words. Conditions: none. -/
import Derived.Test.YtolopkjpodnmkaaDoorQBox
import Derived.Test.YtolopkjpodnmkaaDoorQBsx
import Derived.Test.YtolopkjpodnmkaaDoorGridRoll
import Derived.Test.YtolopkjpodnmkaaDoorFloor
import Derived.Test.YtolopkjpodnmkaaDoorReadLab
import Derived.Test.YtolopkjpodnmkaaDoorBoard
import Derived.Test.YtolopkjpodnmkaaDoorSplit
import Derived.Test.YtolopkjpodnmkaaDoorTrim
import Derived.Test.YtolopkjpodnmkaaDoorWords
import Derived.Test.YtolopkjpodnmkaaDoorState
namespace Go.Proofs.YtolopkjpodnmkaaDoor.BaseM
open Go.RowKit Go.Proofs.YtolopkjpodnmkaaDoor.QBo Go.Proofs.YtolopkjpodnmkaaDoor.QBs Go.Proofs.YtolopkjpodnmkaaDoorW.PrintWords Go.Proofs.YtolopkjpodnmkaaDoorW.PrintLast Go.Proofs.YtolopkjpodnmkaaDoor.Board Go.Proofs.YtolopkjpodnmkaaDoor.IsDie
open Go.Proofs.YtolopkjpodnmkaaDoor.Split (mk)
open Go.Proofs.YtolopkjpodnmkaaDoor.ByteRow (unlab)
open Go.Proofs.YtolopkjpodnmkaaDoor.Dice (Die roll)
open Go.Proofs.YtolopkjpodnmkaaDoor.Dirs (dirOf tup dirs dirs_length)
open Go.Proofs.YtolopkjpodnmkaaDoor.Words (letters dirIx dirIx_one dirOf_lt one isW isW_at extract_one dirs_at goodWord good_small trim_nil)
set_option linter.unusedVariables false
set_option linter.unusedSimpArgs false

theorem succ_wrap {i : Nat} (h : i < 1000000) : wrap64 ((i : Int) + 1) = ((i + 1 : Nat) : Int) := by
  unfold wrap64
  omega

theorem l1In_eq (n : Int) : spec_l1In.f n 0 9 = some (inB n) := by
  unfold spec_l1In.f inB
  by_cases h : 0 ≤ n
  · rw [if_pos h]
    simp [h]
  · rw [if_neg h]
    simp [h]
theorem all_at (xs : List Int) (hl : xs.length ≤ 1000) : ∀ (d i k : Nat), i + d = xs.length → d < k → spec_l1All.l0 k 0 9 xs xs.length i = some ((xs.drop i).all inB) := by
  intro d
  induction d with
  | zero =>
    intro i k hi hk
    obtain ⟨k, rfl⟩ : ∃ m, k = m + 1 := ⟨k - 1, by omega⟩
    rw [spec_l1All.l0, if_neg (by omega), List.drop_eq_nil_of_le (by omega)]
    rfl
  | succ d ih =>
    intro i k hi hk
    obtain ⟨k, rfl⟩ : ∃ m, k = m + 1 := ⟨k - 1, by omega⟩
    have hlt : i < xs.length := by omega
    rw [spec_l1All.l0, if_pos (by omega), if_pos (by omega), if_pos (by omega), l1In_eq]
    simp only [Option.bind_some]
    rw [List.drop_eq_getElem_cons hlt, List.all_cons]
    have hr : rd xs i = xs[i] := by simp [rd, hlt]
    rw [hr]
    cases inB xs[i] with
    | true =>
      rw [if_pos rfl, succ_wrap (by omega), ih (i + 1) k (by omega) (by omega)]
      simp
    | false => simp
theorem diGood_at (a0 a1 a2 a3 a4 a5 : Int) (k : Nat) (hk : 7 ≤ k) : spec_diGood.f k a0 a1 a2 a3 a4 a5 = some (good a0 a1 a2 a3 a4 a5) := by
  unfold spec_diGood.f spec_diFaces.f spec_l1All.f
  simp only [Option.bind_some]
  have := all_at [a0, a1, a2, a3, a4, a5] (by simp) 6 0 k (by simp) (by omega)
  simp only [Int.natCast_zero, List.drop_zero] at this
  rw [this]
  rfl

theorem bt_at (s : ByteArray) (i : Nat) (h : i < s.data.toList.length) : bt s (i : Int) = (s.data.toList[i].toNat : Int) := by
  have hi : i < s.size := h
  simp [bt, hi]
  rfl
theorem up {i : Nat} (h : i ≤ 2000000) : wrap64 ((i : Int) + 1) = ((i + 1 : Nat) : Int) := by
  unfold wrap64
  omega
abbrev ints (l : List UInt8) : List Int := l.map fun c => (c.toNat : Int)
def okB (c : UInt8) : Bool := ([46, 35] : List UInt8).contains c
abbrev nope : Int × Int × List Int × Bool := (0, 0, [], false)
def fin (g : Nat × Nat × List UInt8) : Int × Int × List Int × Bool := if g.1 > 7 ∨ g.2.1 > 7 ∨ g.2.2.length > 36 then nope else ((g.1 : Int), (g.2.1 : Int), ints g.2.2, true)
def out (o : Option (Nat × Nat × List UInt8)) : Int × Int × List Int × Bool := match o with
  | none => nope
  | some g => fin g
theorem toNat_eq {c d : UInt8} : ((c.toNat : Int) = (d.toNat : Int)) ↔ c = d := by
  constructor
  · intro h
    apply UInt8.toNat_inj.1
    omega
  · rintro rfl
    rfl
theorem row_end (s : ByteArray) (k x i w h : Nat) (cs : List UInt8) (hi : i ≤ 1000000) (hh : h ≤ 1000000) :
    spec_boRead.j1 (k + 1) s x i false w h (ints cs) = if (0 < h ∧ x ≠ w) ∨ x = 0 then some nope else spec_boRead.l0 k s 0 ((i + 1 : Nat) : Int) x ((h + 1 : Nat) : Int) (ints cs) := by
  rw [spec_boRead.j1, if_neg (by decide), up (by omega), up (by omega)]
  by_cases h0 : 0 < h
  · rw [if_pos (show (h : Int) > 0 by omega)]
    by_cases hx : x = w
    · rw [if_pos (show (x : Int) = w by omega)]
      by_cases hz : x = 0
      · rw [if_pos (show (x : Int) = 0 by omega), if_pos (.inr hz)]
      · rw [if_neg (show ¬ (x : Int) = 0 by omega), if_neg (by omega)]
    · rw [if_neg (show ¬ (x : Int) = w by omega), if_pos (.inl ⟨h0, hx⟩)]
  · rw [if_neg (show ¬ (h : Int) > 0 by omega)]
    by_cases hz : x = 0
    · rw [if_pos (show (x : Int) = 0 by omega), if_pos (.inr hz)]
    · rw [if_neg (show ¬ (x : Int) = 0 by omega), if_neg (by omega)]
theorem put (s : ByteArray) (c : UInt8) (k x i w h : Nat) (cs : List UInt8) (hbt : bt s (i : Int) = (c.toNat : Int)) (hi : i ≤ 1000000) (hl : i < s.data.toList.length) (hx : x ≤ 1000000) (hc : cs.length ≤ 1000000) (b : Bool) :
    spec_boRead.j2 (k + 1) s x i b w h (ints cs) = if b = true then some nope else spec_boRead.l0 k s ((x + 1 : Nat) : Int) ((i + 1 : Nat) : Int) w h (ints (cs ++ [c])) := by
  have hsz : s.data.toList.length = s.size := rfl
  rw [spec_boRead.j2]
  cases b with
  | true => rw [if_pos rfl, if_pos rfl]
  | false =>
    simp only [Bool.false_eq_true, if_false]
    rw [if_pos (by omega), if_pos (by omega), if_pos (by simp [ints]; omega), up (by omega), up (by omega), hbt]
    simp [ints]
theorem read_l0 (s : ByteArray) (hs : s.size ≤ 1000) : ∀ (n i k x w h : Nat) (cs : List UInt8), i + n = s.size → 3 * n + 6 < k → x ≤ i → h ≤ i → cs.length ≤ i →
    spec_boRead.l0 k s x i w h (ints cs) = some (out (scan okB (s.data.toList.drop i) x w h cs)) := by
  intro n
  induction n with
  | zero =>
    intro i k x w h cs hi hk hx hh hc
    obtain ⟨k, rfl⟩ : ∃ m, k = m + 3 := ⟨k - 3, by omega⟩
    rw [spec_boRead.l0, if_pos (by omega), if_neg (by omega), row_end s (k + 1) x i w h cs (by omega) (by omega), List.drop_eq_nil_of_le (by show s.size ≤ i; omega), scan]
    by_cases hx : (0 < h ∧ x ≠ w) ∨ x = 0
    · rw [if_pos hx, if_pos hx]
      rfl
    · rw [if_neg hx, if_neg hx, spec_boRead.l0, if_neg (by omega), out, fin]
      have hl : ((ints cs).length : Int) = (cs.length : Int) := by simp [ints]
      by_cases h1 : x > 7
      · rw [if_pos (show (x : Int) > 7 by omega), if_pos (.inl h1)]
      · rw [if_neg (show ¬ (x : Int) > 7 by omega)]
        by_cases h2 : h + 1 > 7
        · rw [if_pos (show ((h + 1 : Nat) : Int) > 7 by omega), if_pos (.inr (.inl h2))]
        · rw [if_neg (show ¬ ((h + 1 : Nat) : Int) > 7 by omega), hl]
          by_cases h3 : cs.length > 36
          · rw [if_pos (show (cs.length : Int) > 36 by omega), if_pos (.inr (.inr h3))]
          · rw [if_neg (show ¬ (cs.length : Int) > 36 by omega), if_neg (by simp only; omega)]
  | succ n ih =>
    intro i k x w h cs hi hk hx hh hc
    obtain ⟨k, rfl⟩ : ∃ m, k = m + 3 := ⟨k - 3, by omega⟩
    have hl : i < s.data.toList.length := by show i < s.size; omega
    rw [spec_boRead.l0, if_pos (by omega), if_pos (by omega), if_pos (by omega), bt_at s i hl, List.drop_eq_getElem_cons hl, scan]
    have hbt := bt_at s i hl
    obtain ⟨c, hce⟩ : ∃ c, c = s.data.toList[i] := ⟨_, rfl⟩
    rw [← hce] at hbt ⊢
    by_cases hc47 : c = 47
    · subst hc47
      rw [if_pos rfl, show (((47 : UInt8).toNat : Int) != 47) = false from rfl, row_end s (k + 1) x i w h cs (by omega) (by omega)]
      by_cases hx : (0 < h ∧ x ≠ w) ∨ x = 0
      · rw [if_pos hx, if_pos hx]
        rfl
      · rw [if_neg hx, if_neg hx]
        exact ih (i + 1) (k + 1) 0 x (h + 1) cs (by omega) (by omega) (by omega) (by omega) (by omega)
    · have hb : ((c.toNat : Int) != 47) = true := by
        rw [bne_iff_ne]
        exact fun e => hc47 (toNat_eq.1 e)
      rw [if_neg hc47, hb, spec_boRead.j1, if_pos rfl, if_pos (by omega), if_pos (by omega), hbt]
      have hput := put s c k x i w h cs hbt (by omega) hl (by omega) (by omega)
      have q46 : ((c.toNat : Int) = 46) ↔ c = 46 := toNat_eq (c := c) (d := 46)
      have q35 : ((c.toNat : Int) = 35) ↔ c = 35 := toNat_eq (c := c) (d := 35)
      by_cases h46 : c = 46
      · rw [if_pos (q46.2 h46), hput false, if_neg (by decide), if_pos (by rw [h46]; rfl)]
        exact ih (i + 1) k (x + 1) w h (cs ++ [c]) (by omega) (by omega) (by omega) (by omega) (by simp; omega)
      · rw [if_neg (fun e => h46 (q46.1 e)), hput]
        by_cases h35 : c = 35
        · rw [if_neg (by rw [h35]; decide), if_pos (by rw [h35]; rfl)]
          exact ih (i + 1) k (x + 1) w h (cs ++ [c]) (by omega) (by omega) (by omega) (by omega) (by simp; omega)
        · rw [if_pos (by rw [bne_iff_ne]; exact fun e => h35 (q35.1 e)), if_neg (by simp [okB, h46, h35])]
          rfl
theorem read_at (s : ByteArray) (k : Nat) (hk : 3 * s.size + 10 < k) :
    spec_boRead.f k s = some (if isB okB s.data.toList = true then ((wide s.data.toList : Int), (high s.data.toList : Int), ints (cells s.data.toList), true) else nope) := by
  have hr := read_eq okB (by decide) s.data.toList
  have hsz : s.data.toList.length = s.size := rfl
  rw [hsz] at hr
  unfold spec_boRead.f
  by_cases h : s.size > 42
  · rw [if_pos (show (s.size : Int) > 42 by omega)]
    rw [if_pos h] at hr
    by_cases hb : isB okB s.data.toList = true
    · rw [if_pos hb] at hr
      cases hr
    · rw [if_neg hb]
  · rw [if_neg (show ¬ (s.size : Int) > 42 by omega)]
    rw [if_neg h] at hr
    have hl := read_l0 s (by omega) s.size 0 k 0 0 0 [] (by omega) (by omega) (by omega) (by omega) (by simp)
    rw [List.drop_zero] at hl
    rw [show spec_boRead.l0 k s 0 0 0 0 [] = _ from hl]
    congr 1
    cases hsc : scan okB s.data.toList 0 0 0 [] with
    | none =>
      rw [hsc] at hr
      by_cases hb : isB okB s.data.toList = true
      · rw [if_pos hb] at hr
        cases hr
      · rw [if_neg hb]
        rfl
    | some g =>
      rw [hsc, Option.bind_some] at hr
      rw [out, fin]
      by_cases hg : g.1 > 7 ∨ g.2.1 > 7 ∨ g.2.2.length > 36
      · rw [if_pos hg] at hr ⊢
        by_cases hb : isB okB s.data.toList = true
        · rw [if_pos hb] at hr
          cases hr
        · rw [if_neg hb]
      · rw [if_neg hg] at hr ⊢
        by_cases hb : isB okB s.data.toList = true
        · rw [if_pos hb] at hr ⊢
          obtain rfl := Option.some.inj hr
          rfl
        · rw [if_neg hb] at hr
          cases hr

/-! ### The program's rows -/
def gridOf (s : ByteArray) : List ByteArray := (rows s.data.toList).map mk
theorem in_eq (n a b : Int) : impl_in.f n a b = some (decide (a ≤ n) && decide (n ≤ b)) := by
  unfold impl_in.f
  by_cases h : a ≤ n
  · rw [if_pos h]
    simp [h]
  · rw [if_neg h]
    simp [h]
theorem mk_size (r : List UInt8) : (mk r).size = r.length := by
  show r.toArray.size = r.length
  simp
theorem row_at (rs : List (List UInt8)) (i : Nat) : rdOf ByteArray.empty (rs.map mk) (i : Int) = mk (rs.getD i []) := by
  unfold rdOf
  simp only [Int.toNat_natCast, List.getD_eq_getElem?_getD, List.getElem?_map]
  cases rs[i]? <;> rfl
theorem trim_row (r : List UInt8) (hr : r.length ≤ 2000000) (cs : ByteArray) (hc : Go.Proofs.YtolopkjpodnmkaaDoor.Lib.asciiB cs = true) :
    ∃ t, strings_Trim.f (mk r) cs = some t ∧ (t.toList = [] ↔ (r.all fun c => cs.data.toList.contains c) = true) := by
  refine ⟨⟨(Go.Lib.trimS (mk r).data.toList cs.data.toList).toArray⟩, ?_, ?_⟩
  · unfold strings_Trim.f Go.Proofs.YtolopkjpodnmkaaDoor.Lib.trim
    rw [if_pos ⟨by rw [mk_size]; omega, hc⟩]
  · rw [Go.Lib.toList_data]
    exact Trim.trim_nil r cs.data.toList
theorem rowsOf_l0 (cs : ByteArray) (hc : Go.Proofs.YtolopkjpodnmkaaDoor.Lib.asciiB cs = true) (rs : List (List UInt8)) (hn : rs.length ≤ 2000000) (hr : ∀ r ∈ rs, r.length ≤ 2000000) (wd : Nat) : ∀ (n i k : Nat), i + n = rs.length → n < k →
    impl_rowsOf.l0 k cs (rs.map mk) wd (rs.map mk) ((rs.map mk).length : Int) i =
      some (if (rs.drop i).all (rowOk (fun c => cs.data.toList.contains c) wd) = true then (rs.map mk, (decide (1 ≤ rs.length) && decide (rs.length ≤ 7)) && (decide (1 ≤ wd) && decide (wd ≤ 7)) && decide (wd * rs.length ≤ 36)) else ([], false)) := by
  intro n
  have hlen : ((rs.map mk).length : Int) = (rs.length : Int) := by simp
  induction n with
  | zero =>
    intro i k hi hk
    obtain ⟨k, rfl⟩ : ∃ m, k = m + 1 := ⟨k - 1, by omega⟩
    rw [impl_rowsOf.l0, hlen, if_neg (by omega), in_eq, in_eq, Option.bind_some, List.drop_eq_nil_of_le (by omega), List.all_nil, if_pos (rfl : true = true)]
    have e1 : (decide ((1 : Int) ≤ rs.length) && decide ((rs.length : Int) ≤ 7)) = (decide (1 ≤ rs.length) && decide (rs.length ≤ 7)) := by
      congr 1 <;> exact decide_eq_decide.2 (by omega)
    have e2 : (decide ((1 : Int) ≤ wd) && decide ((wd : Int) ≤ 7)) = (decide (1 ≤ wd) && decide (wd ≤ 7)) := by
      congr 1 <;> exact decide_eq_decide.2 (by omega)
    rw [e1, e2]
    cases h1 : (decide (1 ≤ rs.length) && decide (rs.length ≤ 7)) with
    | false => rfl
    | true =>
      rw [if_pos rfl, Option.bind_some]
      cases h2 : (decide (1 ≤ wd) && decide (wd ≤ 7)) with
      | false => rfl
      | true =>
        rw [if_pos rfl]
        simp only [Bool.and_eq_true, decide_eq_true_eq] at h1 h2
        have hm : wd * rs.length ≤ 49 := Nat.le_trans (Nat.mul_le_mul h2.2 h1.2) (by decide)
        have e3 : wrap64 ((wd : Int) * rs.length) = ((wd * rs.length : Nat) : Int) := by
          rw [← Int.natCast_mul]
          unfold wrap64
          omega
        rw [e3]
        congr 2
        simp only [Bool.true_and]
        exact decide_eq_decide.2 (by omega)
  | succ n ih =>
    intro i k hi hk
    obtain ⟨k, rfl⟩ : ∃ m, k = m + 1 := ⟨k - 1, by omega⟩
    have hl : i < rs.length := by omega
    have hrow : rs.getD i [] = rs[i] := by simp [List.getD, hl]
    rw [impl_rowsOf.l0, hlen, if_pos (by omega), if_pos (by omega), if_pos (by omega), row_at, hrow, mk_size, List.drop_eq_getElem_cons hl, List.all_cons]
    obtain ⟨t, ht, hiff⟩ := trim_row rs[i] (hr _ (List.getElem_mem hl)) cs hc
    rw [ht, Option.bind_some]
    by_cases hw : rs[i].length = wd
    · rw [if_pos (show (rs[i].length : Int) = wd by omega)]
      by_cases ha : (rs[i].all fun c => cs.data.toList.contains c) = true
      · have hrk : rowOk (fun c => cs.data.toList.contains c) wd rs[i] = true := by rw [rowOk, ha, hw]; simp
        rw [if_pos (hiff.2 ha), up (by omega), hrk, Bool.true_and, ← hlen]
        exact ih (i + 1) k (by omega) (by omega)
      · have hrk : rowOk (fun c => cs.data.toList.contains c) wd rs[i] = false := by
          rw [rowOk]
          simp only [Bool.not_eq_true] at ha
          rw [ha]
          simp
        rw [if_neg (fun e => ha (hiff.1 e)), hrk]
        rfl
    · have hrk : rowOk (fun c => cs.data.toList.contains c) wd rs[i] = false := by
        rw [rowOk]
        simp [hw]
      rw [if_neg (show ¬ (rs[i].length : Int) = wd by omega), hrk]
      rfl
theorem rows_small (l : List UInt8) (hl : l.length ≤ 1048576) : (rows l).length ≤ 2000000 ∧ ∀ r ∈ rows l, r.length ≤ 2000000 := by
  have h := rows_length l
  refine ⟨by omega, fun r hr => ?_⟩
  have := (List.sublist_flatten_of_mem hr).length_le
  omega
theorem rowsOf_at (s : ByteArray) (hs : s.size ≤ 1048576) (cs : ByteArray) (hc : Go.Proofs.YtolopkjpodnmkaaDoor.Lib.asciiB cs = true) (k : Nat) (hk : s.size + 2 < k) :
    ∃ g, impl_rowsOf.f k s cs = some (g, isB (fun c => cs.data.toList.contains c) s.data.toList) ∧ (isB (fun c => cs.data.toList.contains c) s.data.toList = true → g = gridOf s) := by
  obtain ⟨h1, h2⟩ := rows_small s.data.toList hs
  have hl := rows_length s.data.toList
  obtain ⟨r, rs, hr⟩ := rows_cons s.data.toList
  have hsz : s.data.toList.length = s.size := rfl
  have hsp : strings_Split.f s ⟨#[47]⟩ = some (gridOf s) := by
    unfold strings_Split.f Go.Proofs.YtolopkjpodnmkaaDoor.Split.says
    rw [if_pos ⟨rfl, by omega⟩]
    rfl
  have hlen : 0 < ((gridOf s).length : Int) := by
    unfold gridOf
    rw [hr]
    simp
  have hwd : rdOf ByteArray.empty (gridOf s) 0 = mk ((rows s.data.toList).headD []) := by
    have := row_at (rows s.data.toList) 0
    rw [show ((0 : Nat) : Int) = 0 from rfl] at this
    rw [gridOf, this, hr]
    rfl
  have hm := rowsOf_l0 cs hc (rows s.data.toList) h1 h2 ((rows s.data.toList).headD []).length (rows s.data.toList).length 0 k (by omega) (by omega)
  rw [List.drop_zero] at hm
  unfold impl_rowsOf.f
  rw [hsp, Option.bind_some, if_pos hlen, hwd, mk_size]
  rw [show impl_rowsOf.l0 k cs (gridOf s) _ (gridOf s) ((gridOf s).length : Int) 0 = _ from hm]
  unfold isB
  cases ha : (rows s.data.toList).all (rowOk (fun c => cs.data.toList.contains c) ((rows s.data.toList).headD []).length) with
  | true =>
    rw [if_pos rfl]
    refine ⟨_, ?_, fun _ => rfl⟩
    simp only [Bool.true_and]
    rfl
  | false =>
    rw [if_neg (by decide)]
    exact ⟨[], rfl, fun h => by simp at h⟩

/-! ### Cells -/
def hasB (l : List UInt8) (x y : Int) : Bool := (decide (0 ≤ y) && decide (y < (high l : Int))) && (decide (0 ≤ x) && decide (x < (wide l : Int)))
def cellAt (l : List UInt8) (x y : Int) : Int := if hasB l x y = true then ((((rows l).getD y.toNat []).getD x.toNat 0).toNat : Int) else 0
def floorB (l : List UInt8) (x y : Int) : Bool := cellAt l x y == 46
theorem has_iff {l : List UInt8} {x y : Int} : hasB l x y = true ↔ (0 ≤ y ∧ y < (high l : Int)) ∧ (0 ≤ x ∧ x < (wide l : Int)) := by simp [hasB]
theorem first_row (s : ByteArray) : rdOf ByteArray.empty (gridOf s) 0 = mk ((rows s.data.toList).headD []) := by
  obtain ⟨r, rs, hr⟩ := rows_cons s.data.toList
  have := row_at (rows s.data.toList) 0
  rw [show ((0 : Nat) : Int) = 0 from rfl] at this
  rw [gridOf, this, hr]
  rfl
theorem grid_length (s : ByteArray) : ((gridOf s).length : Int) = (high s.data.toList : Int) := by
  unfold gridOf high
  simp
theorem has_eq {ok : UInt8 → Bool} (s : ByteArray) (h : IsB ok s.data.toList) (x y : Int) : impl_grid_has.f (gridOf s) x y = some (hasB s.data.toList x y) := by
  have h1 := h.h1
  have h7 := h.h7
  have w1 := h.w1
  have w7 := h.w7
  have e1 : wrap64 ((high s.data.toList : Int) - 1) = (high s.data.toList : Int) - 1 := by unfold wrap64; omega
  have e2 : wrap64 ((wide s.data.toList : Int) - 1) = (wide s.data.toList : Int) - 1 := by unfold wrap64; omega
  unfold impl_grid_has.f hasB
  rw [in_eq, grid_length, e1, Option.bind_some, if_pos (show (0 : Int) < (high s.data.toList : Int) by omega), first_row, mk_size]
  rw [show (((rows s.data.toList).headD []).length : Int) = (wide s.data.toList : Int) from rfl, e2, in_eq, Option.bind_some]
  have d1 : decide (y ≤ (high s.data.toList : Int) - 1) = decide (y < (high s.data.toList : Int)) := decide_eq_decide.2 (by omega)
  have d2 : decide (x ≤ (wide s.data.toList : Int) - 1) = decide (x < (wide s.data.toList : Int)) := decide_eq_decide.2 (by omega)
  rw [d1, d2]
  cases (decide (0 ≤ y) && decide (y < (high s.data.toList : Int))) <;> simp
theorem getD_row {ok : UInt8 → Bool} {l : List UInt8} (h : IsB ok l) (y : Nat) (hy : y < high l) : ((rows l).getD y []).length = wide l := by
  have hy' : y < (rows l).length := hy
  rw [List.getD_eq_getElem?_getD, List.getElem?_eq_getElem hy']
  exact (h.row _ (List.getElem_mem hy')).1
theorem bt_mk (r : List UInt8) (x : Nat) (hx : x < r.length) : bt (mk r) (x : Int) = ((r.getD x 0).toNat : Int) := by
  have := bt_at (mk r) x hx
  rw [this]
  have e : (mk r).data.toList = r := rfl
  simp [List.getD, hx, e]
theorem at_eq {ok : UInt8 → Bool} (s : ByteArray) (h : IsB ok s.data.toList) (x y : Int) : impl_grid_at.f (gridOf s) x y = some (cellAt s.data.toList x y) := by
  unfold impl_grid_at.f cellAt
  rw [has_eq s h, Option.bind_some]
  by_cases hb : hasB s.data.toList x y = true
  · rw [if_pos hb, if_pos hb]
    obtain ⟨⟨y0, y1⟩, x0, x1⟩ := has_iff.1 hb
    obtain ⟨yn, rfl⟩ : ∃ yn : Nat, y = yn := ⟨y.toNat, by omega⟩
    obtain ⟨xn, rfl⟩ : ∃ xn : Nat, x = xn := ⟨x.toNat, by omega⟩
    have hl := getD_row h yn (by omega)
    have hr : rdOf ByteArray.empty (gridOf s) (yn : Int) = mk ((rows s.data.toList).getD yn []) := row_at _ _
    rw [grid_length, hr, mk_size, hl, if_pos (by omega), if_pos y1, if_pos (by omega), if_pos x1, bt_mk _ _ (by omega)]
    simp only [Int.toNat_natCast]
  · rw [if_neg hb, if_neg hb]
theorem l1In_any (n a b : Int) : spec_l1In.f n a b = some (decide (a ≤ n) && decide (n ≤ b)) := by
  unfold spec_l1In.f
  by_cases h : a ≤ n
  · rw [if_pos h]
    simp [h]
  · rw [if_neg h]
    simp [h]
theorem cell_eq {ok : UInt8 → Bool} (l : List UInt8) (h : IsB ok l) (cs : List Int) (x y : Int) : spec_boCell.f (wide l) (high l) cs x y = some (hasB l x y) := by
  have h1 := h.h1
  have h7 := h.h7
  have w1 := h.w1
  have w7 := h.w7
  have e1 : wrap64 ((high l : Int) - 1) = (high l : Int) - 1 := by unfold wrap64; omega
  have e2 : wrap64 ((wide l : Int) - 1) = (wide l : Int) - 1 := by unfold wrap64; omega
  have d1 : decide (y ≤ (high l : Int) - 1) = decide (y < (high l : Int)) := decide_eq_decide.2 (by omega)
  have d2 : decide (x ≤ (wide l : Int) - 1) = decide (x < (wide l : Int)) := decide_eq_decide.2 (by omega)
  unfold spec_boCell.f hasB
  rw [l1In_any, l1In_any, Option.bind_some, Option.bind_some, e1, e2, d1, d2]
  cases (decide (0 ≤ x) && decide (x < (wide l : Int))) <;> simp
theorem rd_ints (l : List UInt8) (n : Nat) : rd (ints l) (n : Int) = ((l.getD n 0).toNat : Int) := by
  unfold rd ints
  simp only [Int.toNat_natCast, List.getD_eq_getElem?_getD, List.getElem?_map]
  cases l[n]? <;> rfl
theorem floor_eq {ok : UInt8 → Bool} (l : List UInt8) (h : IsB ok l) (x y : Int) : spec_boFloor.f (wide l) (high l) (ints (cells l)) x y = some (floorB l x y) := by
  unfold spec_boFloor.f floorB cellAt
  rw [cell_eq l h, Option.bind_some]
  by_cases hb : hasB l x y = true
  · rw [if_pos hb, if_pos hb]
    obtain ⟨⟨y0, y1⟩, x0, x1⟩ := has_iff.1 hb
    obtain ⟨yn, rfl⟩ : ∃ yn : Nat, y = yn := ⟨y.toNat, by omega⟩
    obtain ⟨xn, rfl⟩ : ∃ xn : Nat, x = xn := ⟨x.toNat, by omega⟩
    have h7 := h.h7
    have w7 := h.w7
    have hcl := h.cells_length
    have hm : yn * wide l ≤ 49 := Nat.le_trans (Nat.mul_le_mul (show yn ≤ 7 by omega) w7) (by decide)
    have hin : yn * wide l + xn < wide l * high l := by
      have a1 : yn * wide l + wide l ≤ high l * wide l := by
        rw [← Nat.succ_mul]
        exact Nat.mul_le_mul_right _ (by omega)
      rw [Nat.mul_comm (wide l)]
      omega
    have e : wrap64 (wrap64 ((yn : Int) * (wide l : Int)) + xn) = ((yn * wide l + xn : Nat) : Int) := by
      rw [← Int.natCast_mul]
      unfold wrap64
      omega
    have hlen : ((ints (cells l)).length : Int) = ((wide l * high l : Nat) : Int) := by
      rw [List.length_map, hcl]
    rw [e, hlen, if_pos (by omega), if_pos (by omega), rd_ints, h.at_ yn xn (by omega) (by omega)]
    simp only [Int.toNat_natCast]
  · rw [if_neg hb, if_neg hb]
    rfl

/-! ### States -/
def stateB (l : List UInt8) (x y a0 a1 a2 a3 a4 a5 : Int) : Bool := floorB l x y && good a0 a1 a2 a3 a4 a5
theorem boState_eq {ok : UInt8 → Bool} (l : List UInt8) (h : IsB ok l) (x y a0 a1 a2 a3 a4 a5 : Int) (k : Nat) (hk : 7 ≤ k) :
    spec_boState.f k (wide l) (high l) (ints (cells l)) x y a0 a1 a2 a3 a4 a5 = some (stateB l x y a0 a1 a2 a3 a4 a5) := by
  unfold spec_boState.f stateB
  rw [floor_eq l h, Option.bind_some, diGood_at _ _ _ _ _ _ k hk, Option.bind_some]
  cases floorB l x y <;> simp
theorem isState_eq {ok : UInt8 → Bool} (s : ByteArray) (h : IsB ok s.data.toList) (x y a0 a1 a2 a3 a4 a5 : Int) :
    impl_grid_isState.f (gridOf s) x y a0 a1 a2 a3 a4 a5 = some (stateB s.data.toList x y a0 a1 a2 a3 a4 a5) := by
  unfold impl_grid_isState.f stateB impl_IsDie.f
  rw [at_eq s h, Option.bind_some, Option.bind_some]
  unfold floorB
  cases good a0 a1 a2 a3 a4 a5 <;> simp

/-! ### Rolls -/
theorem state_in {ok : UInt8 → Bool} {l : List UInt8} (h : IsB ok l) {x y a0 a1 a2 a3 a4 a5 : Int} (hs : stateB l x y a0 a1 a2 a3 a4 a5 = true) : (0 ≤ x ∧ x < 7) ∧ (0 ≤ y ∧ y < 7) := by
  unfold stateB floorB cellAt at hs
  have h7 := h.h7
  have w7 := h.w7
  by_cases hb : hasB l x y = true
  · obtain ⟨⟨y0, y1⟩, x0, x1⟩ := has_iff.1 hb
    omega
  · rw [if_neg hb] at hs
    simp at hs
theorem boNext_eq (x y : Int) (hx : 0 ≤ x ∧ x < 7) (hy : 0 ≤ y ∧ y < 7) (k : Nat) (hk : k < 4) : spec_boNext.f x y k = some (Reach.next x y k) := by
  have e1 : wrap64 (x + 1) = x + 1 := by unfold wrap64; omega
  have e2 : wrap64 (x - 1) = x - 1 := by unfold wrap64; omega
  have e3 : wrap64 (y + 1) = y + 1 := by unfold wrap64; omega
  have e4 : wrap64 (y - 1) = y - 1 := by unfold wrap64; omega
  unfold spec_boNext.f
  rw [e1, e2, e3, e4]
  rcases k with _ | _ | _ | _ | k
  · rfl
  · rfl
  · rfl
  · rfl
  · omega
theorem inext_eq (x y : Int) (hx : 0 ≤ x ∧ x < 7) (hy : 0 ≤ y ∧ y < 7) (c : Int) : Go.Proofs.YtolopkjpodnmkaaDoor.QBo.impl_next.f x y c = some (Reach.next x y (dirOf c)) := by
  have e1 : wrap64 (x + 1) = x + 1 := by unfold wrap64; omega
  have e2 : wrap64 (x - 1) = x - 1 := by unfold wrap64; omega
  have e3 : wrap64 (y + 1) = y + 1 := by unfold wrap64; omega
  have e4 : wrap64 (y - 1) = y - 1 := by unfold wrap64; omega
  unfold Go.Proofs.YtolopkjpodnmkaaDoor.QBo.impl_next.f dirOf
  rw [e1, e2, e3, e4]
  by_cases h1 : c = 110
  · rw [if_pos h1, if_pos h1]; rfl
  rw [if_neg h1, if_neg h1]
  by_cases h2 : c = 101
  · rw [if_pos h2, if_pos h2]; rfl
  rw [if_neg h2, if_neg h2]
  by_cases h3 : c = 115
  · rw [if_pos h3, if_pos h3]; rfl
  rw [if_neg h3, if_neg h3]
  rfl
theorem diRoll_eq (d : Die) (k : Nat) (hk : k < 4) : spec_diRoll.f d.t d.n d.e d.s d.w d.b k = some (tup (roll d k)) := by
  unfold spec_diRoll.f
  (try unfold Go.Proofs.YtolopkjpodnmkaaDoor.DieRolls.sroll)
  rcases k with _ | _ | _ | _ | k
  · simp [roll]
  · simp [roll]
  · simp [roll]
  · simp [roll]
  · omega
theorem iroll_eq (d : Die) (c : Int) : Go.Proofs.YtolopkjpodnmkaaDoor.QBo.impl_Die_roll.f d.t d.n d.e d.s d.w d.b c = some (tup (roll d (dirOf c))) := by
  unfold Go.Proofs.YtolopkjpodnmkaaDoor.QBo.impl_Die_roll.f dirOf
  (try unfold Go.Proofs.YtolopkjpodnmkaaDoor.DieRolls.iroll)
  by_cases h1 : c = 110
  · simp [h1, roll]
  · by_cases h2 : c = 101
    · simp [h2, roll]
    · by_cases h3 : c = 115
      · simp [h3, roll]
      · simp [h1, h2, h3, roll]
abbrev flat (t : Reach.St) (b : Bool) : Int × Int × Int × Int × Int × Int × Int × Int × Bool := (t.x, t.y, t.d.t, t.d.n, t.d.e, t.d.s, t.d.w, t.d.b, b)
abbrev zero9 : Int × Int × Int × Int × Int × Int × Int × Int × Bool := (0, 0, 0, 0, 0, 0, 0, 0, false)
def moved (t : Reach.St) (k : Nat) : Reach.St := ⟨(Reach.next t.x t.y k).1, (Reach.next t.x t.y k).2, roll t.d k⟩
def canB (l : List UInt8) (t : Reach.St) (k : Nat) : Bool := floorB l (moved t k).x (moved t k).y
theorem boRoll_eq {ok : UInt8 → Bool} (l : List UInt8) (h : IsB ok l) (t : Reach.St) (hx : 0 ≤ t.x ∧ t.x < 7) (hy : 0 ≤ t.y ∧ t.y < 7) (k : Nat) (hk : k < 4) :
    spec_boRoll.f (wide l) (high l) (ints (cells l)) t.x t.y t.d.t t.d.n t.d.e t.d.s t.d.w t.d.b k = some (if canB l t k = true then flat (moved t k) true else zero9) := by
  unfold spec_boRoll.f canB moved
  rw [boNext_eq _ _ hx hy k hk, Option.bind_some, floor_eq l h, Option.bind_some, diRoll_eq _ k hk]
  simp only
  cases floorB l (Reach.next t.x t.y k).1 (Reach.next t.x t.y k).2 <;> rfl
theorem gridRoll_eq {ok : UInt8 → Bool} (s : ByteArray) (h : IsB ok s.data.toList) (t : Reach.St) (hx : 0 ≤ t.x ∧ t.x < 7) (hy : 0 ≤ t.y ∧ t.y < 7) (c : Int) :
    Go.Proofs.YtolopkjpodnmkaaDoor.GridRoll.says (gridOf s) t.x t.y t.d.t t.d.n t.d.e t.d.s t.d.w t.d.b c = some (flat (moved t (dirOf c)) (canB s.data.toList t (dirOf c))) := by
  unfold Go.Proofs.YtolopkjpodnmkaaDoor.GridRoll.says canB moved
  rw [inext_eq _ _ hx hy c, Option.bind_some, iroll_eq, Option.bind_some, at_eq s h]
  rfl

/-! ### Labels -/
theorem uall (p : UInt8 → Bool) (h : (List.range 256).all (fun n => p (UInt8.ofNat n)) = true) (c : UInt8) : p c = true := by
  have := List.all_eq_true.1 h c.toNat (List.mem_range.2 c.toNat_lt)
  simpa using this
def okL (c : UInt8) : Bool := ([46, 35, 48, 49, 50, 51, 52, 53, 54, 55, 56, 57] : List UInt8).contains c
theorem ok_unlab (c : UInt8) : okB (unlab c) = okL c := by
  have := uall (fun c => okB (unlab c) == okL c) (by decide +kernel) c
  simpa using this
theorem unlab_stroke (c : UInt8) : unlab c = 47 ↔ c = 47 := by
  have := uall (fun c => decide (unlab c = 47) == decide (c = 47)) (by decide +kernel) c
  simpa using this
theorem rows_map : ∀ (l : List UInt8), rows (l.map unlab) = (rows l).map (·.map unlab)
  | [] => rfl
  | c :: l => by
    have ih := rows_map l
    by_cases hc : c = 47
    · subst hc
      rw [List.map_cons, show unlab 47 = 47 from rfl, rows_stroke, rows_stroke, List.map_cons, ih]
      rfl
    · obtain ⟨r, rs, h⟩ := rows_cons l
      rw [h, List.map_cons] at ih
      rw [rows_other hc h, List.map_cons, rows_other (fun e => hc ((unlab_stroke c).1 e)) ih, List.map_cons, List.map_cons]
theorem wide_map (l : List UInt8) : wide (l.map unlab) = wide l := by
  obtain ⟨r, rs, h⟩ := rows_cons l
  unfold wide
  rw [rows_map, h]
  simp
theorem high_map (l : List UInt8) : high (l.map unlab) = high l := by
  unfold high
  rw [rows_map, List.length_map]
theorem isB_map (l : List UInt8) : isB okB (l.map unlab) = isB okL l := by
  have e : ((rows (l.map unlab)).headD []).length = ((rows l).headD []).length := wide_map l
  have e2 : (rows (l.map unlab)).length = (rows l).length := high_map l
  unfold isB
  rw [e, e2, rows_map, List.all_map]
  congr 3
  apply congrArg (fun p => (rows l).all p)
  funext r
  simp only [Function.comp, rowOk, List.length_map, List.all_map]
  congr 1
  apply congrArg (fun p => r.all p)
  funext c
  exact ok_unlab c
theorem cells_filter : ∀ (l : List UInt8), l.filter (fun c => !(c == 47)) = cells l
  | [] => rfl
  | c :: l => by
    have ih := cells_filter l
    unfold cells at ih ⊢
    by_cases hc : c = 47
    · subst hc
      rw [rows_stroke, List.flatten_cons, List.nil_append, ← ih]
      rfl
    · obtain ⟨r, rs, h⟩ := rows_cons l
      rw [rows_other hc h, List.flatten_cons, List.cons_append, List.filter_cons_of_pos (by simp [hc]), ih, h, List.flatten_cons]
theorem labs_eq (l : List UInt8) : ReadLab.labs l = ints (cells l) := by
  unfold ReadLab.labs
  rw [cells_filter]
theorem plain_list (s : ByteArray) : (ReadLab.plainText s).data.toList = s.data.toList.map unlab := by simp [ReadLab.plainText]
theorem plainB {l : List UInt8} (h : IsB okL l) : IsB okB (l.map unlab) := isB_iff.1 (by rw [isB_map]; exact isB_iff.2 h)
theorem has_map (l : List UInt8) (x y : Int) : hasB (l.map unlab) x y = hasB l x y := by unfold hasB; rw [wide_map, high_map]
theorem prRead_at (s : ByteArray) (k : Nat) (hk : 3 * s.size + 10 < k) : ∃ r, ReadLab.says k s = some r ∧ r.2.2.2.2 = isB okL s.data.toList ∧
    (isB okL s.data.toList = true → r = ((wide s.data.toList : Int), (high s.data.toList : Int), ints (cells (s.data.toList.map unlab)), ints (cells s.data.toList), true)) := by
  unfold ReadLab.says
  by_cases h : s.size ≤ 42
  · have hsz : (ReadLab.plainText s).size = s.size := by
      show (ReadLab.plainText s).data.toList.length = s.data.toList.length
      rw [plain_list, List.length_map]
    have hr := read_at (ReadLab.plainText s) k (by omega)
    rw [plain_list, isB_map] at hr
    rw [if_pos h, hr, Option.bind_some]
    cases hb : isB okL s.data.toList with
    | true =>
      rw [if_pos rfl, wide_map, high_map, labs_eq]
      exact ⟨_, rfl, rfl, fun _ => rfl⟩
    | false =>
      rw [if_neg (by decide)]
      exact ⟨_, rfl, rfl, fun h => by cases h⟩
  · rw [if_neg h]
    have hb : isB okL s.data.toList = false := by
      apply Bool.eq_false_iff.2
      intro hb
      exact h (isB_iff.1 hb).short
    rw [hb]
    exact ⟨_, rfl, rfl, fun h => by cases h⟩
theorem labelled_at (s : ByteArray) (hs : s.size ≤ 1048576) (k : Nat) (hk : s.size + 2 < k) :
    ∃ g, impl_labelled.f k s = some (g, isB okL s.data.toList) ∧ (isB okL s.data.toList = true → g = gridOf s) := by
  obtain ⟨g, h1, h2⟩ := rowsOf_at s hs ⟨#[46, 35, 48, 49, 50, 51, 52, 53, 54, 55, 56, 57]⟩ (by decide) k hk
  refine ⟨g, ?_, h2⟩
  unfold impl_labelled.f
  rw [h1]
  rfl
theorem floor_at (s : ByteArray) (h : IsB okL s.data.toList) : Floor.says (gridOf s) = some (gridOf (ReadLab.plainText s)) := by
  have h7 := h.h7
  have w7 := h.w7
  unfold Floor.says
  rw [if_pos]
  · congr 1
    unfold gridOf
    rw [plain_list, rows_map, List.map_map, List.map_map]
    apply List.map_congr_left
    intro r hr
    simp [Floor.floorRow, mk, Function.comp]
  · refine ⟨?_, ?_⟩
    · unfold gridOf
      rw [List.length_map]
      unfold high at h7
      omega
    · rw [List.all_eq_true]
      intro r hr
      unfold gridOf at hr
      obtain ⟨q, hq, rfl⟩ := List.mem_map.1 hr
      rw [mk_size, (h.row q hq).1]
      simp
      omega
def matchB (l : List UInt8) (x y top : Int) : Bool := if 48 ≤ cellAt l x y ∧ cellAt l x y ≤ 57 then cellAt l x y - 48 == top else true
theorem cell_range (l : List UInt8) (x y : Int) : 0 ≤ cellAt l x y ∧ cellAt l x y < 256 := by
  unfold cellAt
  by_cases hb : hasB l x y = true
  · rw [if_pos hb]
    have := (((rows l).getD y.toNat []).getD x.toNat 0).toNat_lt
    omega
  · rw [if_neg hb]
    omega
theorem digit_eq (c : Int) : impl_isDigit.f c = some (decide (48 ≤ c) && decide (c ≤ 57)) := by
  unfold impl_isDigit.f
  by_cases h : 48 ≤ c
  · rw [if_pos h]
    simp [h]
  · rw [if_neg h]
    simp [h]
theorem prDigit_eq (c : Int) : spec_prDigit.f c = some (decide (48 ≤ c) && decide (c ≤ 57)) := by
  unfold spec_prDigit.f
  by_cases h : 48 ≤ c
  · rw [if_pos h]
    simp [h]
  · rw [if_neg h]
    simp [h]
theorem label_eq {ok : UInt8 → Bool} (s : ByteArray) (h : IsB ok s.data.toList) (x y : Int) : impl_grid_label.f (gridOf s) x y = some (cellAt s.data.toList x y - 48, decide (48 ≤ cellAt s.data.toList x y) && decide (cellAt s.data.toList x y ≤ 57)) := by
  obtain ⟨c0, c1⟩ := cell_range s.data.toList x y
  have e1 : wrap64 (cellAt s.data.toList x y) = cellAt s.data.toList x y := by unfold wrap64; omega
  have e2 : wrap64 (cellAt s.data.toList x y - 48) = cellAt s.data.toList x y - 48 := by unfold wrap64; omega
  unfold impl_grid_label.f
  rw [at_eq s h, Option.bind_some, digit_eq, Option.bind_some, e1, e2]
theorem matches_eq {ok : UInt8 → Bool} (s : ByteArray) (h : IsB ok s.data.toList) (x y a0 a1 a2 a3 a4 a5 : Int) : impl_grid_matches.f (gridOf s) x y a0 a1 a2 a3 a4 a5 = some (matchB s.data.toList x y a0) := by
  unfold impl_grid_matches.f matchB
  rw [label_eq s h, Option.bind_some]
  by_cases hd : 48 ≤ cellAt s.data.toList x y ∧ cellAt s.data.toList x y ≤ 57
  · rw [if_pos hd, if_pos (by simp [hd])]
  · rw [if_neg hd, if_neg (by simp; omega)]
theorem prMatch_eq {ok : UInt8 → Bool} (l : List UInt8) (h : IsB ok l) (cs : List Int) (x y a0 a1 a2 a3 a4 a5 : Int) (hb : hasB l x y = true) : spec_prMatch.f (wide l) (high l) cs (ints (cells l)) x y a0 a1 a2 a3 a4 a5 = some (matchB l x y a0) := by
  unfold spec_prMatch.f matchB cellAt
  rw [if_pos hb]
  obtain ⟨⟨y0, y1⟩, x0, x1⟩ := has_iff.1 hb
  obtain ⟨yn, rfl⟩ : ∃ yn : Nat, y = yn := ⟨y.toNat, by omega⟩
  obtain ⟨xn, rfl⟩ : ∃ xn : Nat, x = xn := ⟨x.toNat, by omega⟩
  have h7 := h.h7
  have w7 := h.w7
  have hcl := h.cells_length
  have hm : yn * wide l ≤ 49 := Nat.le_trans (Nat.mul_le_mul (show yn ≤ 7 by omega) w7) (by decide)
  have hin : yn * wide l + xn < wide l * high l := by
    have a1 : yn * wide l + wide l ≤ high l * wide l := by
      rw [← Nat.succ_mul]
      exact Nat.mul_le_mul_right _ (by omega)
    rw [Nat.mul_comm (wide l)]
    omega
  have e : wrap64 (wrap64 ((yn : Int) * (wide l : Int)) + xn) = ((yn * wide l + xn : Nat) : Int) := by
    rw [← Int.natCast_mul]
    unfold wrap64
    omega
  have hlen : ((ints (cells l)).length : Int) = ((wide l * high l : Nat) : Int) := by
    rw [List.length_map, hcl]
  rw [e, hlen, if_pos (by omega), if_pos (by omega), rd_ints, h.at_ yn xn (by omega) (by omega), prDigit_eq, Option.bind_some]
  simp only [Int.toNat_natCast]
  have hc := (((rows l).getD yn []).getD xn 0).toNat_lt
  generalize (((rows l).getD yn []).getD xn 0).toNat = c at hc ⊢
  by_cases hd : 48 ≤ (c : Int) ∧ (c : Int) ≤ 57
  · have e2 : ((c : Int) - 48) % 256 = (c : Int) - 48 := by omega
    rw [if_pos hd, if_pos (by simp [hd]), e2]
  · rw [if_neg hd, if_neg (by simp; omega)]
theorem floor_has {l : List UInt8} {x y : Int} (h : floorB l x y = true) : hasB l x y = true := by
  unfold floorB cellAt at h
  by_cases hb : hasB l x y = true
  · exact hb
  · rw [if_neg hb] at h
    simp at h
end Go.Proofs.YtolopkjpodnmkaaDoor.BaseM
