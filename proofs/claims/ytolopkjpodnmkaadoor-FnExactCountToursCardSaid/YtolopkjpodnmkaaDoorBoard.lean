/- Boards as texts: rows, and what a scan of the text comes to. Plain lemmas, no program in sight. -/
import Derived.Lib.Split
import Derived.Lib.SplitLaws
import Derived.Lib.IndexBytes
namespace Go.Proofs.YtolopkjpodnmkaaDoor.Board
set_option linter.unusedVariables false
set_option linter.unusedSimpArgs false

def rows : List UInt8 → List (List UInt8)
  | [] => [[]]
  | c :: l => if c = 47 then [] :: rows l else match rows l with
    | [] => [[c]]
    | r :: rs => (c :: r) :: rs
theorem rows_cons (l : List UInt8) : ∃ r rs, rows l = r :: rs := by
  cases l with
  | nil => exact ⟨_, _, rfl⟩
  | cons c l =>
    unfold rows
    split
    · exact ⟨_, _, rfl⟩
    · split
      · exact ⟨_, _, rfl⟩
      · exact ⟨_, _, rfl⟩
theorem rows_stroke (l : List UInt8) : rows (47 :: l) = [] :: rows l := by rw [rows, if_pos rfl]
theorem rows_other {c : UInt8} {l : List UInt8} {r : List UInt8} {rs : List (List UInt8)} (hc : c ≠ 47) (h : rows l = r :: rs) : rows (c :: l) = (c :: r) :: rs := by
  rw [rows, if_neg hc, h]
theorem rows_length (l : List UInt8) : (rows l).flatten.length + (rows l).length = l.length + 1 := by
  induction l with
  | nil => rfl
  | cons c l ih =>
    by_cases hc : c = 47
    · subst hc
      rw [rows_stroke]
      simp only [List.flatten_cons, List.length_append, List.length_cons, List.length_nil]
      omega
    · obtain ⟨r, rs, h⟩ := rows_cons l
      rw [rows_other hc h]
      rw [h] at ih
      simp only [List.flatten_cons, List.length_append, List.length_cons] at ih ⊢
      omega

theorem index_stroke : ∀ (l r : List UInt8) (rs : List (List UInt8)), rows l = r :: rs → Go.Lib.indexByte l 47 = if rs = [] then -1 else (r.length : Int)
  | [], r, rs, h => by
    simp [rows] at h
    obtain ⟨rfl, rfl⟩ := h
    rfl
  | c :: l, r, rs, h => by
    by_cases hc : c = 47
    · subst hc
      rw [rows_stroke] at h
      injection h with h1 h2
      subst h1 h2
      obtain ⟨r', rs', h'⟩ := rows_cons l
      simp [Go.Lib.indexByte, h']
    · obtain ⟨r', rs', h'⟩ := rows_cons l
      rw [rows_other hc h'] at h
      injection h with h1 h2
      subst h1 h2
      have ih := index_stroke l r' rs' h'
      have hb : (c == 47) = false := by simpa using hc
      simp only [Go.Lib.indexByte, hb, Bool.false_eq_true, if_false, ih]
      by_cases he : rs' = []
      · simp [he]
      · have h1 : ¬ ((r'.length : Int) = -1) := by omega
        simp [he, h1]
theorem take_rows : ∀ (l r : List UInt8) (rs : List (List UInt8)), rows l = r :: rs → l.take r.length = r ∧ (rs ≠ [] → rows (l.drop (r.length + 1)) = rs) ∧ (rs = [] → r = l)
  | [], r, rs, h => by
    simp [rows] at h
    obtain ⟨rfl, rfl⟩ := h
    simp
  | c :: l, r, rs, h => by
    by_cases hc : c = 47
    · subst hc
      rw [rows_stroke] at h
      injection h with h1 h2
      subst h1 h2
      obtain ⟨r', rs', h'⟩ := rows_cons l
      simp [h']
    · obtain ⟨r', rs', h'⟩ := rows_cons l
      rw [rows_other hc h'] at h
      injection h with h1 h2
      subst h1 h2
      obtain ⟨i1, i2, i3⟩ := take_rows l r' rs' h'
      refine ⟨by simp [i1], fun hne => ?_, fun he => by rw [i3 he]⟩
      simpa using i2 hne
theorem count_stroke (l : List UInt8) : l.count 47 + 1 = (rows l).length := by
  induction l with
  | nil => rfl
  | cons c l ih =>
    by_cases hc : c = 47
    · subst hc
      rw [rows_stroke, List.count_cons_self]
      simp
      omega
    · obtain ⟨r, rs, h⟩ := rows_cons l
      rw [rows_other hc h, List.count_cons_of_ne hc]
      rw [h] at ih
      simpa using ih
theorem splitK_rows : ∀ (k : Nat) (l : List UInt8), l.count 47 = k → Go.Lib.splitK [47] 0 k l = rows l
  | 0, l, h => by
    have := count_stroke l
    obtain ⟨r, rs, hr⟩ := rows_cons l
    rw [hr, h] at this
    have he : rs = [] := by
      simp at this
      exact this
    subst he
    rw [hr, Go.Lib.splitK, (take_rows l r [] hr).2.2 rfl]
  | k + 1, l, h => by
    have hc := count_stroke l
    obtain ⟨r, rs, hr⟩ := rows_cons l
    rw [hr, h] at hc
    have hne : rs ≠ [] := by
      intro e
      rw [e] at hc
      simp at hc
    have hi := index_stroke l r rs hr
    rw [if_neg hne] at hi
    obtain ⟨t1, t2, _⟩ := take_rows l r rs hr
    rw [Go.Lib.splitK, Go.Lib.index_one, hi]
    have hb : (((r.length : Int)) == -1) = false := by
      rw [beq_eq_false_iff_ne]
      omega
    rw [hb, if_neg (by decide)]
    simp only [Int.toNat_natCast, Nat.add_zero, List.length_cons, List.length_nil, Nat.zero_add]
    have hcnt : (l.drop (r.length + 1)).count 47 = k := by
      have h2 := count_stroke (l.drop (r.length + 1))
      rw [t2 hne] at h2
      simp at hc
      omega
    rw [t1, splitK_rows k _ hcnt, t2 hne, hr]

def rowOk (ok : UInt8 → Bool) (wide : Nat) (r : List UInt8) : Bool := decide (r.length = wide) && r.all ok
def scan (ok : UInt8 → Bool) : List UInt8 → Nat → Nat → Nat → List UInt8 → Option (Nat × Nat × List UInt8)
  | [], x, w, h, cs => if (0 < h ∧ x ≠ w) ∨ x = 0 then none else some (x, h + 1, cs)
  | c :: l, x, w, h, cs => if c = 47 then (if (0 < h ∧ x ≠ w) ∨ x = 0 then none else scan ok l 0 x (h + 1) cs) else if ok c = true then scan ok l (x + 1) w h (cs ++ [c]) else none

theorem scan_eq (ok : UInt8 → Bool) (hok : ok 47 = false) : ∀ (l : List UInt8) (x w h : Nat) (cs r : List UInt8) (rs : List (List UInt8)), rows l = r :: rs →
    scan ok l x w h cs = if (r.all ok = true ∧ x + r.length ≠ 0 ∧ (0 < h → x + r.length = w) ∧ rs.all (rowOk ok (x + r.length)) = true) then some (x + r.length, h + 1 + rs.length, cs ++ (rows l).flatten) else none
  | [], x, w, h, cs, r, rs, hr => by
    simp [rows] at hr
    obtain ⟨rfl, rfl⟩ := hr
    rw [scan]
    by_cases hx : (0 < h ∧ x ≠ w) ∨ x = 0
    · rw [if_pos hx, if_neg (by simp; omega)]
    · rw [if_neg hx, if_pos (by simp; omega)]
      simp [rows]
  | c :: l, x, w, h, cs, r, rs, hr => by
    obtain ⟨r', rs', h'⟩ := rows_cons l
    rw [scan]
    by_cases hc : c = 47
    · subst hc
      rw [rows_stroke] at hr ⊢
      injection hr with h1 h2
      subst h1 h2
      rw [if_pos rfl]
      by_cases hx : (0 < h ∧ x ≠ w) ∨ x = 0
      · rw [if_pos hx, if_neg (by simp; omega)]
      · rw [if_neg hx, scan_eq ok hok l 0 x (h + 1) cs r' rs' h']
        have hx0 : x ≠ 0 := fun e => hx (.inr e)
        have hxw : 0 < h → x = w := fun e => Classical.byContradiction fun n => hx (.inl ⟨e, n⟩)
        by_cases hg : r'.all ok = true ∧ r'.length = x ∧ rs'.all (rowOk ok x) = true
        · obtain ⟨g1, g2, g3⟩ := hg
          have hl : (rows l).all (rowOk ok (x + ([] : List UInt8).length)) = true := by
            rw [h', List.all_cons]
            simp only [List.length_nil, Nat.add_zero]
            simp [rowOk, g1, g2]
            intro y hy
            have := List.all_eq_true.1 g3 y hy
            simpa [rowOk] using this
          rw [if_pos ⟨g1, by omega, fun _ => by omega, by rw [Nat.zero_add, g2]; exact g3⟩, if_pos ⟨rfl, by simpa using hx0, by simpa using hxw, hl⟩]
          simp [h', g2]
          omega
        · rw [if_neg, if_neg]
          · rintro ⟨_, _, _, hl⟩
            rw [h', List.all_cons] at hl
            simp only [List.length_nil, Nat.add_zero, Bool.and_eq_true] at hl
            refine hg ⟨?_, ?_, hl.2⟩
            · have := hl.1
              simp [rowOk] at this
              simpa using this.2
            · have := hl.1
              simp [rowOk] at this
              exact this.1
          · rintro ⟨k1, k2, k3, k4⟩
            have e : 0 + r'.length = x := k3 (by omega)
            rw [e] at k4
            exact hg ⟨k1, by omega, k4⟩
    · rw [rows_other hc h'] at hr ⊢
      injection hr with h1 h2
      subst h1 h2
      rw [if_neg hc]
      by_cases hk : ok c = true
      · rw [if_pos hk, scan_eq ok hok l (x + 1) w h (cs ++ [c]) r' rs' h', h']
        have e : x + 1 + r'.length = x + (c :: r').length := by simp; omega
        rw [e]
        simp only [List.all_cons, hk, Bool.true_and, List.flatten_cons, List.cons_append, List.append_assoc, List.nil_append]
      · rw [if_neg hk, if_neg]
        rintro ⟨k1, _⟩
        rw [List.all_cons] at k1
        simp [hk] at k1

def isB (ok : UInt8 → Bool) (l : List UInt8) : Bool :=
  (rows l).all (rowOk ok ((rows l).headD []).length) && (decide (1 ≤ (rows l).length) && decide ((rows l).length ≤ 7)) && (decide (1 ≤ ((rows l).headD []).length) && decide (((rows l).headD []).length ≤ 7)) && decide (((rows l).headD []).length * (rows l).length ≤ 36)
def wide (l : List UInt8) : Nat := ((rows l).headD []).length
def high (l : List UInt8) : Nat := (rows l).length
def cells (l : List UInt8) : List UInt8 := (rows l).flatten

structure IsB (ok : UInt8 → Bool) (l : List UInt8) : Prop where
  row : ∀ r ∈ rows l, r.length = wide l ∧ r.all ok = true
  h1 : 1 ≤ high l
  h7 : high l ≤ 7
  w1 : 1 ≤ wide l
  w7 : wide l ≤ 7
  c36 : wide l * high l ≤ 36
theorem isB_iff {ok : UInt8 → Bool} {l : List UInt8} : isB ok l = true ↔ IsB ok l := by
  unfold isB
  simp only [Bool.and_eq_true, decide_eq_true_eq, List.all_eq_true, rowOk]
  constructor
  · rintro ⟨⟨⟨h, a, b⟩, c, d⟩, e⟩
    exact ⟨fun r hr => ⟨(h r hr).1, List.all_eq_true.2 (h r hr).2⟩, a, b, c, d, e⟩
  · intro h
    exact ⟨⟨⟨fun r hr => ⟨(h.row r hr).1, List.all_eq_true.1 (h.row r hr).2⟩, h.h1, h.h7⟩, h.w1, h.w7⟩, h.c36⟩

theorem flat_length {rs : List (List UInt8)} {w : Nat} (h : ∀ r ∈ rs, r.length = w) : rs.flatten.length = w * rs.length := by
  induction rs with
  | nil => simp
  | cons r rs ih =>
    rw [List.flatten_cons, List.length_append, h r (by simp), ih (fun r hr => h r (by simp [hr])), List.length_cons, Nat.mul_succ]
    omega
theorem flat_at {w : Nat} : ∀ (rs : List (List UInt8)), (∀ r ∈ rs, r.length = w) → ∀ (y x : Nat), y < rs.length → x < w → rs.flatten.getD (y * w + x) 0 = (rs.getD y []).getD x 0
  | [], _, y, x, hy, _ => by simp at hy
  | r :: rs, h, 0, x, hy, hx => by
    have hr := h r (by simp)
    simp [List.getD, List.getElem?_append, hr, hx]
  | r :: rs, h, y + 1, x, hy, hx => by
    have hr := h r (by simp)
    have ih := flat_at rs (fun r hr => h r (by simp [hr])) y x (by simpa using hy) hx
    have e : (y + 1) * w + x = r.length + (y * w + x) := by rw [hr, Nat.succ_mul]; omega
    rw [List.flatten_cons, e]
    have h2 : (r ++ rs.flatten).getD (r.length + (y * w + x)) 0 = rs.flatten.getD (y * w + x) 0 := by
      rw [List.getD_eq_getElem?_getD, List.getElem?_append_right (by omega), Nat.add_sub_cancel_left]
      rfl
    rw [h2, ih]
    simp [List.getD]
theorem IsB.cells_length {ok : UInt8 → Bool} {l : List UInt8} (h : IsB ok l) : (cells l).length = wide l * high l := flat_length (fun r hr => (h.row r hr).1)
theorem IsB.at_ {ok : UInt8 → Bool} {l : List UInt8} (h : IsB ok l) (y x : Nat) (hy : y < high l) (hx : x < wide l) : (cells l).getD (y * wide l + x) 0 = ((rows l).getD y []).getD x 0 :=
  flat_at (rows l) (fun r hr => (h.row r hr).1) y x hy hx
theorem IsB.short {ok : UInt8 → Bool} {l : List UInt8} (h : IsB ok l) : l.length ≤ 42 := by
  have h1 := rows_length l
  have h2 := h.cells_length
  have h3 := h.c36
  have h4 := h.h7
  unfold cells at h2
  unfold high at *
  omega
theorem read_eq (ok : UInt8 → Bool) (hok : ok 47 = false) (l : List UInt8) :
    (if l.length > 42 then none else (scan ok l 0 0 0 []).bind fun g => if g.1 > 7 ∨ g.2.1 > 7 ∨ g.2.2.length > 36 then none else some g) = if isB ok l = true then some (wide l, high l, cells l) else none := by
  obtain ⟨r, rs, hr⟩ := rows_cons l
  have hw : wide l = r.length := by rw [wide, hr]; rfl
  by_cases hb : isB ok l = true
  · have h := isB_iff.1 hb
    have hs := h.short
    have hrow := h.row
    rw [hr] at hrow
    have e : scan ok l 0 0 0 [] = some (wide l, high l, cells l) := by
      rw [scan_eq ok hok l 0 0 0 [] r rs hr, if_pos]
      · simp [hw, high, cells, hr]
        omega
      · have hw1 := h.w1
        refine ⟨(hrow r (by simp)).2, by omega, fun h0 => absurd h0 (by omega), ?_⟩
        rw [List.all_eq_true]
        intro y hy
        have := hrow y (by simp [hy])
        rw [rowOk, Nat.zero_add, this.2]
        simp [this.1, hw]
    have hc := h.cells_length
    have h36 := h.c36
    have h7 := h.h7
    have w7 := h.w7
    rw [if_neg (by omega), e, if_pos hb, Option.bind_some, if_neg (by simp only; omega)]
  · rw [if_neg hb]
    by_cases hl : l.length > 42
    · rw [if_pos hl]
    rw [if_neg hl, scan_eq ok hok l 0 0 0 [] r rs hr]
    by_cases hg : (r.all ok = true ∧ 0 + r.length ≠ 0 ∧ (0 < 0 → 0 + r.length = 0) ∧ rs.all (rowOk ok (0 + r.length)) = true)
    · rw [if_pos hg, Option.bind_some]
      obtain ⟨g1, g2, _, g4⟩ := hg
      rw [Nat.zero_add] at g4
      have hrow : ∀ q ∈ rows l, q.length = wide l ∧ q.all ok = true := by
        rw [hr, hw]
        intro q hq
        rcases List.mem_cons.1 hq with rfl | hq
        · exact ⟨rfl, g1⟩
        · have := List.all_eq_true.1 g4 q hq
          rw [rowOk, Bool.and_eq_true, decide_eq_true_eq] at this
          exact this
      have hcl := flat_length (fun q hq => (hrow q hq).1)
      rw [if_pos]
      simp only [List.nil_append]
      apply Classical.byContradiction
      intro hn
      have hh : (rows l).length = 1 + rs.length := by rw [hr]; simp; omega
      refine hb (isB_iff.2 ⟨hrow, by unfold high; omega, by unfold high; omega, by omega, by omega, ?_⟩)
      unfold high
      omega
    · rw [if_neg hg]
      rfl
end Go.Proofs.YtolopkjpodnmkaaDoor.Board
