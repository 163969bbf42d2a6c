/- Plain laws on words: IsRolls, TurnRolls, IsClosedWay. Conditions: none but that a text has at most 2^47 bytes. -/
import Derived.Test.YtdlifinfjjbmkaaDoorQWax
import Derived.Test.YtdlifinfjjbmkaaDoorWords
namespace Go.Proofs.YtdlifinfjjbmkaaDoor.PureWa
open Go.RowKit Go.Proofs.YtdlifinfjjbmkaaDoor.QWa Go.Proofs.YtdlifinfjjbmkaaDoorW.PrintWords Go.Proofs.YtdlifinfjjbmkaaDoorW.PrintLast Go.Proofs.YtdlifinfjjbmkaaDoor.Rolled Go.Proofs.YtdlifinfjjbmkaaDoor.Words
open Go.Proofs.YtdlifinfjjbmkaaDoor.Turned (turnByte)
set_option linter.unusedVariables false
set_option linter.unusedSimpArgs false

theorem diDir_at (s : ByteArray) (k : Nat) : spec_diDir.f (k + 5) s = some (dirIx s) := by
  have e0 : ((⟨#[110, 101, 115, 119]⟩ : ByteArray).extract 0 1).toList = [110] := by rw [Go.Lib.toList_data, ByteArray.data_extract]; rfl
  have e1 : ((⟨#[110, 101, 115, 119]⟩ : ByteArray).extract 1 2).toList = [101] := by rw [Go.Lib.toList_data, ByteArray.data_extract]; rfl
  have e2 : ((⟨#[110, 101, 115, 119]⟩ : ByteArray).extract 2 3).toList = [115] := by rw [Go.Lib.toList_data, ByteArray.data_extract]; rfl
  have e3 : ((⟨#[110, 101, 115, 119]⟩ : ByteArray).extract 3 4).toList = [119] := by rw [Go.Lib.toList_data, ByteArray.data_extract]; rfl
  have z : (((⟨#[110, 101, 115, 119]⟩ : ByteArray).size : Nat) : Int) = 4 := rfl
  have w1 : wrap64 ((0 : Int) + 1) = 1 := by unfold wrap64; omega
  have w2 : wrap64 ((1 : Int) + 1) = 2 := by unfold wrap64; omega
  have w3 : wrap64 ((2 : Int) + 1) = 3 := by unfold wrap64; omega
  have w4 : wrap64 ((3 : Int) + 1) = 4 := by unfold wrap64; omega
  have t0 : Int.toNat 0 = 0 := rfl
  have t1 : Int.toNat 1 = 1 := rfl
  have t2 : Int.toNat 2 = 2 := rfl
  have t3 : Int.toNat 3 = 3 := rfl
  have t4 : Int.toNat 4 = 4 := rfl
  unfold spec_diDir.f dirIx
  rw [spec_diDir.l0, spec_diDirs.f, Option.bind_some, w1, z, t0, t1, e0, if_pos (by omega), if_pos (by omega), if_pos (by omega), if_pos (by omega)]
  by_cases h0 : s.toList = [110]
  · rw [if_pos h0, if_pos h0]
  rw [if_neg h0, if_neg h0, spec_diDir.l0, spec_diDirs.f, Option.bind_some, w2, z, t1, t2, e1, if_pos (by omega), if_pos (by omega), if_pos (by omega), if_pos (by omega)]
  by_cases h1 : s.toList = [101]
  · rw [if_pos h1, if_pos h1]
  rw [if_neg h1, if_neg h1, spec_diDir.l0, spec_diDirs.f, Option.bind_some, w3, z, t2, t3, e2, if_pos (by omega), if_pos (by omega), if_pos (by omega), if_pos (by omega)]
  by_cases h2 : s.toList = [115]
  · rw [if_pos h2, if_pos h2]
  rw [if_neg h2, if_neg h2, spec_diDir.l0, spec_diDirs.f, Option.bind_some, w4, z, t3, t4, e3, if_pos (by omega), if_pos (by omega), if_pos (by omega), if_pos (by omega)]
  by_cases h3 : s.toList = [119]
  · rw [if_pos h3, if_pos h3]
  rw [if_neg h3, if_neg h3, spec_diDir.l0, if_neg (by omega)]

theorem wrap_up {i n : Nat} (h : i < n) (hn : n ≤ 1048576) : wrap64 ((i : Int) + 1) = ((i + 1 : Nat) : Int) := by
  unfold wrap64
  omega
/-- One letter of a text, as the reference reads it. -/
theorem diDir_ch (s : ByteArray) (i : Nat) (h : i < s.data.toList.length) (k : Nat) (hk : 5 ≤ k) :
    spec_diDir.f k (s.extract i (i + 1)) = some (if letters.contains s.data.toList[i] = true then (dirOf s.data.toList[i].toNat : Int) else -1) := by
  obtain ⟨m, rfl⟩ : ∃ m, k = m + 5 := ⟨k - 5, by omega⟩
  rw [diDir_at, extract_one s i h, dirIx_one]
theorem diWord_l0 (s : ByteArray) (hs : s.size ≤ 1048576) : ∀ (n i k : Nat), i + n = s.size → n + 6 < k → spec_diWord.l0 k s i = some (isW (s.data.toList.drop i)) := by
  intro n
  induction n with
  | zero =>
    intro i k hi hk
    obtain ⟨k, rfl⟩ : ∃ m, k = m + 1 := ⟨k - 1, by omega⟩
    rw [spec_diWord.l0, if_neg (by omega), List.drop_eq_nil_of_le (by show s.size ≤ i; omega)]
    rfl
  | succ n ih =>
    intro i k hi hk
    obtain ⟨k, rfl⟩ : ∃ m, k = m + 1 := ⟨k - 1, by omega⟩
    have hl : i < s.data.toList.length := by show i < s.size; omega
    rw [spec_diWord.l0, if_pos (by omega), wrap_up (n := s.size) (by omega) hs, if_pos (by omega), if_pos (by omega), if_pos (by omega), Int.toNat_natCast, Int.toNat_natCast, diDir_ch s i hl k (by omega), Option.bind_some]
    rw [List.drop_eq_getElem_cons hl]
    unfold isW
    rw [List.all_cons]
    by_cases hc : letters.contains s.data.toList[i] = true
    · rw [if_pos hc, if_neg (by omega), ih (i + 1) k (by omega) (by omega), hc]
      rfl
    · rw [if_neg hc, if_pos (by omega)]
      simp only [Bool.not_eq_true] at hc
      rw [hc]
      rfl
theorem diWord_at (s : ByteArray) (hs : s.size ≤ 1048576) (k : Nat) (hk : s.size + 7 < k) : spec_diWord.f k s = some (goodWord s) := by
  unfold spec_diWord.f goodWord
  by_cases h : s.size ≤ 60
  · rw [if_neg (by omega), show ((0 : Int)) = ((0 : Nat) : Int) from rfl, diWord_l0 s hs s.size 0 k (by omega) (by omega), List.drop_zero]
    simp [h]
  · rw [if_pos (by omega)]
    simp [h]
theorem isRolls_eq (s : ByteArray) (hs : s.size ≤ 1048576) : impl_IsRolls.f s = some (goodWord s) := by
  unfold impl_IsRolls.f strings_Trim.f Go.Proofs.YtdlifinfjjbmkaaDoor.Lib.trim goodWord
  by_cases h : s.size ≤ 60
  · rw [if_pos (by omega), if_pos ⟨by omega, by decide⟩, Option.bind_some]
    congr 1
    rw [Go.Lib.toList_data, Bool.eq_iff_iff]
    simp only [beq_iff_eq, decide_eq_true h, Bool.true_and]
    exact trim_nil s.data.toList letters
  · rw [if_neg (by omega)]
    simp [h]

theorem piece (q : Nat) (hq : q = 1 ∨ q = 2) (c : UInt8) (hc : letters.contains c = true) :
    0 ≤ Int.tmod (wrap64 ((dirOf c.toNat : Int) + (q : Int))) 4 ∧ Int.tmod (wrap64 ((dirOf c.toNat : Int) + (q : Int))) 4 ≤ wrap64 (Int.tmod (wrap64 ((dirOf c.toNat : Int) + (q : Int))) 4 + 1) ∧
    wrap64 (Int.tmod (wrap64 ((dirOf c.toNat : Int) + (q : Int))) 4 + 1) ≤ 4 ∧
    (⟨#[110, 101, 115, 119]⟩ : ByteArray).extract (Int.tmod (wrap64 ((dirOf c.toNat : Int) + (q : Int))) 4).toNat (wrap64 (Int.tmod (wrap64 ((dirOf c.toNat : Int) + (q : Int))) 4 + 1)).toNat = ⟨#[turnByte q c]⟩ := by
  have h : c = 110 ∨ c = 101 ∨ c = 115 ∨ c = 119 := by simpa [letters] using hc
  rcases hq with rfl | rfl <;> rcases h with rfl | rfl | rfl | rfl <;> decide +kernel
def row (l : List UInt8) : ByteArray := ⟨l.toArray⟩
theorem row_snoc (l : List UInt8) (c : UInt8) : row l ++ ⟨#[c]⟩ = row (l ++ [c]) := by
  apply ByteArray.ext
  simp [row]
theorem row_size (l : List UInt8) : (row l).size = l.length := by
  show l.toArray.size = l.length
  simp
theorem four : ((⟨#[110, 101, 115, 119]⟩ : ByteArray).size : Int) = 4 := rfl

theorem isRolls (s : ByteArray) (hb : s.size ≤ 140737488351232) : ∃ k, laws_FnExactIsRolls.f k s = some true := by
  refine ⟨s.size + 8, ?_⟩
  unfold laws_FnExactIsRolls.f
  by_cases h : (s.size : Int) > 1048576
  · rw [if_pos h]
  · rw [if_neg h, spec_IsRolls.f, diWord_at s (by omega) _ (by omega), isRolls_eq s (by omega)]
    simp

theorem turn_l0 (s : ByteArray) (hs : s.size ≤ 60) (hw : isW s.data.toList = true) : ∀ (n i k : Nat), i + n = s.size → n + 6 < k →
    spec_TurnRolls.l0 k s (row ((s.data.toList.take i).map (turnByte 1))) i = some (row (s.data.toList.map (turnByte 1)), true) := by
  intro n
  induction n with
  | zero =>
    intro i k hi hk
    obtain ⟨k, rfl⟩ : ∃ m, k = m + 1 := ⟨k - 1, by omega⟩
    rw [spec_TurnRolls.l0, if_neg (by omega), List.take_of_length_le (by show s.size ≤ i; omega)]
  | succ n ih =>
    intro i k hi hk
    obtain ⟨k, rfl⟩ : ∃ m, k = m + 1 := ⟨k - 1, by omega⟩
    have hl : i < s.data.toList.length := by show i < s.size; omega
    have hc := isW_at hw i hl
    obtain ⟨p1, p2, p3, p4⟩ := piece 1 (.inl rfl) _ hc
    simp only [Int.natCast_one] at p1 p2 p3 p4
    have hsz : (row ((s.data.toList.take i).map (turnByte 1))).size = i := by rw [row_size]; simp; omega
    rw [spec_TurnRolls.l0, if_pos (by omega), wrap_up (n := s.size) (by omega) (by omega), if_pos (by omega), if_pos (by omega), if_pos (by omega), Int.toNat_natCast, Int.toNat_natCast, diDir_ch s i hl k (by omega), Option.bind_some, if_pos hc]
    rw [spec_diDirs.f, Option.bind_some, if_pos p1, if_pos p2, if_pos (by rw [four]; exact p3), p4, if_pos (by rw [hsz]; show i + 1 ≤ _; omega), row_snoc]
    have e : (s.data.toList.take i).map (turnByte 1) ++ [turnByte 1 s.data.toList[i]] = (s.data.toList.take (i + 1)).map (turnByte 1) := by
      rw [List.take_succ_eq_append_getElem hl, List.map_append]
      rfl
    rw [e]
    exact ih (i + 1) k (by omega) (by omega)

theorem turnRolls (s : ByteArray) (hb : s.size ≤ 140737488351232) : ∃ k, laws_FnExactTurnRolls.f k s = some true := by
  refine ⟨s.size + 8, ?_⟩
  unfold laws_FnExactTurnRolls.f
  by_cases h : (s.size : Int) > 1048576
  · rw [if_pos h]
  · rw [if_neg h, spec_TurnRolls.f, impl_TurnRolls.f, diWord_at s (by omega) _ (by omega), isRolls_eq s (by omega), Option.bind_some, Option.bind_some]
    cases hg : goodWord s with
    | false => simp
    | true =>
      obtain ⟨h60, hw⟩ := good_small hg
      have h1 := turn_l0 s h60 hw s.size 0 (s.size + 8) (by omega) (by omega)
      have h2 : impl_turned.f s 1 = some (row (s.data.toList.map (turnByte 1))) := by
        unfold impl_turned.f Go.Proofs.YtdlifinfjjbmkaaDoor.Turned.says
        rw [if_pos ⟨.inl rfl, by omega, hw⟩]
        rfl
      have h3 : spec_TurnRolls.l0 (s.size + 8) s ⟨#[]⟩ 0 = some (row (s.data.toList.map (turnByte 1)), true) := h1
      rw [if_pos rfl, if_pos rfl, h2, h3]
      simp

/-! ### Closed ways -/
def cnt (c : UInt8) (l : List UInt8) : Int := l.count c
theorem cnt_same (a : UInt8) (l : List UInt8) : cnt a (a :: l) = cnt a l + 1 := by
  unfold cnt
  rw [List.count_cons_self]
  rfl
theorem cnt_other (c a : UInt8) (l : List UInt8) (h : a ≠ c) : cnt c (a :: l) = cnt c l := by
  unfold cnt
  rw [List.count_cons_of_ne h]
theorem both_eq {p q p' q' : Prop} [Decidable p] [Decidable q] [Decidable p'] [Decidable q'] (h : p ↔ p') (k : q ↔ q') : (some (decide p && decide q) : Option Bool) = some (decide p' && decide q') := by
  rw [decide_eq_decide.2 h, decide_eq_decide.2 k]
theorem closed_l0 (s : ByteArray) (hs : s.size ≤ 60) (hw : isW s.data.toList = true) : ∀ (n i k : Nat) (x y : Int), i + n = s.size → n + 6 < k → -i ≤ x → x ≤ i → -i ≤ y → y ≤ i →
    spec_boClosed.l0 k s x y i = some (decide (x + cnt 101 (s.data.toList.drop i) - cnt 119 (s.data.toList.drop i) = 0) && decide (y + cnt 115 (s.data.toList.drop i) - cnt 110 (s.data.toList.drop i) = 0)) := by
  intro n
  induction n with
  | zero =>
    intro i k x y hi hk hx hx2 hy hy2
    obtain ⟨k, rfl⟩ : ∃ m, k = m + 1 := ⟨k - 1, by omega⟩
    rw [spec_boClosed.l0, if_neg (by omega), List.drop_eq_nil_of_le (by show s.size ≤ i; omega)]
    have h0 : ∀ c, cnt c [] = 0 := fun _ => rfl
    simp only [h0, Int.add_zero, Int.sub_zero]
    by_cases h : x = 0
    · rw [if_pos h]
      simp [h]
      rfl
    · rw [if_neg h]
      simp [h]
  | succ n ih =>
    intro i k x y hi hk hx hx2 hy hy2
    obtain ⟨k, rfl⟩ : ∃ m, k = m + 1 := ⟨k - 1, by omega⟩
    have hl : i < s.data.toList.length := by show i < s.size; omega
    have hc := isW_at hw i hl
    rw [spec_boClosed.l0, if_pos (by omega), wrap_up (n := s.size) (by omega) (by omega), if_pos (by omega), if_pos (by omega), if_pos (by omega), Int.toNat_natCast, Int.toNat_natCast, diDir_ch s i hl k (by omega), Option.bind_some, if_pos hc]
    rw [List.drop_eq_getElem_cons hl]
    generalize s.data.toList[i] = c at hc ⊢
    have h : c = 110 ∨ c = 101 ∨ c = 115 ∨ c = 119 := by simpa [letters] using hc
    have w1 : ∀ z : Int, -i ≤ z → z ≤ i → wrap64 (z + 1) = z + 1 := fun z _ _ => by unfold wrap64; omega
    have w2 : ∀ z : Int, -i ≤ z → z ≤ i → wrap64 (z - 1) = z - 1 := fun z _ _ => by unfold wrap64; omega
    have d0 : ((dirOf (110 : UInt8).toNat : Nat) : Int) = 0 := rfl
    have d1 : ((dirOf (101 : UInt8).toNat : Nat) : Int) = 1 := rfl
    have d2 : ((dirOf (115 : UInt8).toNat : Nat) : Int) = 2 := rfl
    have d3 : ((dirOf (119 : UInt8).toNat : Nat) : Int) = 3 := rfl
    rcases h with rfl | rfl | rfl | rfl
    · rw [d0, spec_boNext.f, if_pos rfl, Option.bind_some, w2 y hy hy2, ih (i + 1) k _ _ (by omega) (by omega) (by omega) (by omega) (by omega) (by omega)]
      have q := fun b h => cnt_other b 110 (s.data.toList.drop (i + 1)) h
      rw [q 101 (by decide), q 119 (by decide), q 115 (by decide), cnt_same]
      exact both_eq (by omega) (by omega)
    · rw [d1, spec_boNext.f, if_neg (by decide), if_pos rfl, Option.bind_some, w1 x hx hx2, ih (i + 1) k _ _ (by omega) (by omega) (by omega) (by omega) (by omega) (by omega)]
      have q := fun b h => cnt_other b 101 (s.data.toList.drop (i + 1)) h
      rw [q 119 (by decide), q 115 (by decide), q 110 (by decide), cnt_same]
      exact both_eq (by omega) (by omega)
    · rw [d2, spec_boNext.f, if_neg (by decide), if_neg (by decide), if_pos rfl, Option.bind_some, w1 y hy hy2, ih (i + 1) k _ _ (by omega) (by omega) (by omega) (by omega) (by omega) (by omega)]
      have q := fun b h => cnt_other b 115 (s.data.toList.drop (i + 1)) h
      rw [q 101 (by decide), q 119 (by decide), q 110 (by decide), cnt_same]
      exact both_eq (by omega) (by omega)
    · rw [d3, spec_boNext.f, if_neg (by decide), if_neg (by decide), if_neg (by decide), Option.bind_some, w2 x hx hx2, ih (i + 1) k _ _ (by omega) (by omega) (by omega) (by omega) (by omega) (by omega)]
      have q := fun b h => cnt_other b 119 (s.data.toList.drop (i + 1)) h
      rw [q 101 (by decide), q 115 (by decide), q 110 (by decide), cnt_same]
      exact both_eq (by omega) (by omega)
theorem count_eq (s : ByteArray) (c : UInt8) : strings_Count.f s ⟨#[c]⟩ = some (cnt c s.data.toList) := rfl

theorem closed_both (s : ByteArray) (hg : goodWord s = true) (k : Nat) (hk : 70 < k) : ∃ b, spec_boClosed.f k s = some b ∧ impl_isClosed.f s = some b := by
  obtain ⟨h60, hw⟩ := good_small hg
  have h1 := closed_l0 s h60 hw s.size 0 k 0 0 (by omega) (by omega) (by omega) (by omega) (by omega) (by omega)
  rw [List.drop_zero] at h1
  refine ⟨_, h1, ?_⟩
  rw [impl_isClosed.f]
  simp only [count_eq, Option.bind_some]
  generalize cnt 101 s.data.toList = e
  generalize cnt 119 s.data.toList = w
  generalize cnt 110 s.data.toList = n
  generalize cnt 115 s.data.toList = z
  have hx : decide (0 + e - w = 0) = (e == w) := by
    rw [Bool.eq_iff_iff]
    simp
    omega
  have hy : decide (0 + z - n = 0) = decide (n = z) := decide_eq_decide.2 (by omega)
  rw [hx, hy]
  by_cases hns : n = z
  · simp [hns]
  · simp [hns]

theorem isClosedWay (s : ByteArray) (hb : s.size ≤ 140737488351232) : ∃ k, laws_FnExactIsClosedWay.f k s = some true := by
  refine ⟨s.size + 80, ?_⟩
  unfold laws_FnExactIsClosedWay.f
  by_cases h : (s.size : Int) > 1048576
  · rw [if_pos h]
  · rw [if_neg h, spec_IsClosedWay.f, impl_IsClosedWay.f, diWord_at s (by omega) _ (by omega), isRolls_eq s (by omega), Option.bind_some, Option.bind_some]
    cases hg : goodWord s with
    | false => simp
    | true =>
      obtain ⟨b, h1, h2⟩ := closed_both s hg (s.size + 80) (by omega)
      rw [if_pos rfl, if_pos rfl, h1, h2]
      simp
end Go.Proofs.YtdlifinfjjbmkaaDoor.PureWa
