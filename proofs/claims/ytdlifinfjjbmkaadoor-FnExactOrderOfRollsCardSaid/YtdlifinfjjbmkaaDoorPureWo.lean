/- The plain law on OrderOfRolls. Conditions: none but that a text has at most 2^47 bytes. -/
import Derived.Test.YtdlifinfjjbmkaaDoorQWox
import Derived.Test.YtdlifinfjjbmkaaDoorWords
import Derived.Test.YtdlifinfjjbmkaaDoorOrder
namespace Go.Proofs.YtdlifinfjjbmkaaDoor.PureWo
open Go.RowKit Go.Proofs.YtdlifinfjjbmkaaDoor.QWo Go.Proofs.YtdlifinfjjbmkaaDoorW.PrintWords Go.Proofs.YtdlifinfjjbmkaaDoorW.PrintLast Go.Proofs.YtdlifinfjjbmkaaDoor.Words Go.Proofs.YtdlifinfjjbmkaaDoor.Order
open Go.Proofs.YtdlifinfjjbmkaaDoor.Dice (Die roll rolled plain)
open Go.Proofs.YtdlifinfjjbmkaaDoor.Dirs (text text_size dirs dirs_text dirs_length dirOf text_snoc tup)
set_option linter.unusedVariables false
set_option linter.unusedSimpArgs false

theorem diDir_at (s : ByteArray) (k : Nat) : spec_diDir.f (k + 5) s = some (dirIx s) := by
  have e0 : ((⟨#[110, 101, 115, 119]⟩ : ByteArray).extract 0 1).toList = [110] := by rw [Go.Lib.toList_data, ByteArray.data_extract]; rfl
  have e1 : ((⟨#[110, 101, 115, 119]⟩ : ByteArray).extract 1 2).toList = [101] := by rw [Go.Lib.toList_data, ByteArray.data_extract]; rfl
  have e2 : ((⟨#[110, 101, 115, 119]⟩ : ByteArray).extract 2 3).toList = [115] := by rw [Go.Lib.toList_data, ByteArray.data_extract]; rfl
  have e3 : ((⟨#[110, 101, 115, 119]⟩ : ByteArray).extract 3 4).toList = [119] := by rw [Go.Lib.toList_data, ByteArray.data_extract]; rfl
  have z : (((⟨#[110, 101, 115, 119]⟩ : ByteArray).size : Nat) : Int) = 4 := rfl
  have w1 : wrap64 ((0 : Int) + 1) = 1 := by unfold wrap64; omega
  have w2 : wrap64 ((1 : Int) + 1) = 2 := by unfold wrap64; omega
  have w3 : wrap64 ((2 : Int) + 1) = 3 := by unfold wrap64; omega
  have w4 : wrap64 ((3 : Int) + 1) = 4 := by unfold wrap64; omega
  have t0 : Int.toNat 0 = 0 := rfl
  have t1 : Int.toNat 1 = 1 := rfl
  have t2 : Int.toNat 2 = 2 := rfl
  have t3 : Int.toNat 3 = 3 := rfl
  have t4 : Int.toNat 4 = 4 := rfl
  unfold spec_diDir.f dirIx
  rw [spec_diDir.l0, spec_diDirs.f, Option.bind_some, w1, z, t0, t1, e0, if_pos (by omega), if_pos (by omega), if_pos (by omega), if_pos (by omega)]
  by_cases h0 : s.toList = [110]
  · rw [if_pos h0, if_pos h0]
  rw [if_neg h0, if_neg h0, spec_diDir.l0, spec_diDirs.f, Option.bind_some, w2, z, t1, t2, e1, if_pos (by omega), if_pos (by omega), if_pos (by omega), if_pos (by omega)]
  by_cases h1 : s.toList = [101]
  · rw [if_pos h1, if_pos h1]
  rw [if_neg h1, if_neg h1, spec_diDir.l0, spec_diDirs.f, Option.bind_some, w3, z, t2, t3, e2, if_pos (by omega), if_pos (by omega), if_pos (by omega), if_pos (by omega)]
  by_cases h2 : s.toList = [115]
  · rw [if_pos h2, if_pos h2]
  rw [if_neg h2, if_neg h2, spec_diDir.l0, spec_diDirs.f, Option.bind_some, w4, z, t3, t4, e3, if_pos (by omega), if_pos (by omega), if_pos (by omega), if_pos (by omega)]
  by_cases h3 : s.toList = [119]
  · rw [if_pos h3, if_pos h3]
  rw [if_neg h3, if_neg h3, spec_diDir.l0, if_neg (by omega)]

theorem wrap_up {i n : Nat} (h : i < n) (hn : n ≤ 1048576) : wrap64 ((i : Int) + 1) = ((i + 1 : Nat) : Int) := by
  unfold wrap64
  omega
/-- One letter of a text, as the reference reads it. -/
theorem diDir_ch (s : ByteArray) (i : Nat) (h : i < s.data.toList.length) (k : Nat) (hk : 5 ≤ k) :
    spec_diDir.f k (s.extract i (i + 1)) = some (if letters.contains s.data.toList[i] = true then (dirOf s.data.toList[i].toNat : Int) else -1) := by
  obtain ⟨m, rfl⟩ : ∃ m, k = m + 5 := ⟨k - 5, by omega⟩
  rw [diDir_at, extract_one s i h, dirIx_one]
theorem diWord_l0 (s : ByteArray) (hs : s.size ≤ 1048576) : ∀ (n i k : Nat), i + n = s.size → n + 6 < k → spec_diWord.l0 k s i = some (isW (s.data.toList.drop i)) := by
  intro n
  induction n with
  | zero =>
    intro i k hi hk
    obtain ⟨k, rfl⟩ : ∃ m, k = m + 1 := ⟨k - 1, by omega⟩
    rw [spec_diWord.l0, if_neg (by omega), List.drop_eq_nil_of_le (by show s.size ≤ i; omega)]
    rfl
  | succ n ih =>
    intro i k hi hk
    obtain ⟨k, rfl⟩ : ∃ m, k = m + 1 := ⟨k - 1, by omega⟩
    have hl : i < s.data.toList.length := by show i < s.size; omega
    rw [spec_diWord.l0, if_pos (by omega), wrap_up (n := s.size) (by omega) hs, if_pos (by omega), if_pos (by omega), if_pos (by omega), Int.toNat_natCast, Int.toNat_natCast, diDir_ch s i hl k (by omega), Option.bind_some]
    rw [List.drop_eq_getElem_cons hl]
    unfold isW
    rw [List.all_cons]
    by_cases hc : letters.contains s.data.toList[i] = true
    · rw [if_pos hc, if_neg (by omega), ih (i + 1) k (by omega) (by omega), hc]
      rfl
    · rw [if_neg hc, if_pos (by omega)]
      simp only [Bool.not_eq_true] at hc
      rw [hc]
      rfl
theorem diWord_at (s : ByteArray) (hs : s.size ≤ 1048576) (k : Nat) (hk : s.size + 7 < k) : spec_diWord.f k s = some (goodWord s) := by
  unfold spec_diWord.f goodWord
  by_cases h : s.size ≤ 60
  · rw [if_neg (by omega), show ((0 : Int)) = ((0 : Nat) : Int) from rfl, diWord_l0 s hs s.size 0 k (by omega) (by omega), List.drop_zero]
    simp [h]
  · rw [if_pos (by omega)]
    simp [h]

theorem diRoll_eq (d : Die) (k : Nat) (hk : k < 4) : spec_diRoll.f d.t d.n d.e d.s d.w d.b k = some (tup (roll d k)) := by
  unfold spec_diRoll.f
  rcases k with _ | _ | _ | _ | k
  · simp [roll]
  · simp [roll]
  · simp [roll]
  · simp [roll]
  · omega
theorem diRun_l0 (s : ByteArray) (hs : s.size ≤ 1048576) (hw : isW s.data.toList = true) : ∀ (n i k : Nat) (d : Die), i + n = s.size → n + 6 < k →
    spec_diRun.l0 k s i d.t d.n d.e d.s d.w d.b = some (tup (rolled d ((dirs s).drop i))) := by
  intro n
  induction n with
  | zero =>
    intro i k d hi hk
    obtain ⟨k, rfl⟩ : ∃ m, k = m + 1 := ⟨k - 1, by omega⟩
    rw [spec_diRun.l0, if_neg (by omega), List.drop_eq_nil_of_le (by rw [dirs_length]; omega)]
    rfl
  | succ n ih =>
    intro i k d hi hk
    obtain ⟨k, rfl⟩ : ∃ m, k = m + 1 := ⟨k - 1, by omega⟩
    have hl : i < s.data.toList.length := by show i < s.size; omega
    rw [spec_diRun.l0, if_pos (by omega), wrap_up (n := s.size) (by omega) hs, if_pos (by omega), if_pos (by omega), if_pos (by omega), Int.toNat_natCast, Int.toNat_natCast, diDir_ch s i hl k (by omega), Option.bind_some, if_pos (isW_at hw i hl), diRoll_eq d _ (dirOf_lt _), Option.bind_some, dirs_at s i hl]
    exact ih (i + 1) k (roll d (dirOf s.data.toList[i].toNat)) (by omega) (by omega)
theorem diRun_at (s : ByteArray) (hw : goodWord s = true) (d : Die) (k : Nat) (hk : 67 < k) : spec_diRun.f k d.t d.n d.e d.s d.w d.b s = some (tup (rolled d (dirs s))) := by
  obtain ⟨h1, h2⟩ := good_small hw
  unfold spec_diRun.f
  exact diRun_l0 s (by omega) h2 s.size 0 k d (by omega) (by omega)

theorem beqDie (x y : Die) : (x.t == y.t && (x.n == y.n && (x.e == y.e && (x.s == y.s && (x.w == y.w && (x.b == y.b)))))) = decide (x = y) := by
  obtain ⟨x0, x1, x2, x3, x4, x5⟩ := x
  obtain ⟨y0, y1, y2, y3, y4, y5⟩ := y
  rw [Bool.eq_iff_iff]
  simp
theorem bneDie (x y : Die) : (!(x.t == y.t) || (!(x.n == y.n) || (!(x.e == y.e) || (!(x.s == y.s) || (!(x.w == y.w) || (!(x.b == y.b))))))) = !decide (x = y) := by
  rw [← beqDie]
  simp only [Bool.not_and]
theorem unit_eq : spec_diUnit.f = some (tup plain) := by
  simp [spec_diUnit.f, spec_diOf.f, rd, plain]
theorem order_l0 (s : ByteArray) (hg : goodWord s = true) : ∀ (m n k : Nat), n + m = ord s → 1 ≤ n → m + 80 < k →
    spec_OrderOfRolls.l0 k s n (it s n).t (it s n).n (it s n).e (it s n).s (it s n).w (it s n).b = some ((ord s : Int), true) := by
  intro m
  induction m with
  | zero =>
    intro n k hn h1 hk
    obtain ⟨k, rfl⟩ : ∃ q, k = q + 1 := ⟨k - 1, by omega⟩
    have e : it s n = plain := by rw [show n = ord s from by omega, ord_end]
    rw [spec_OrderOfRolls.l0, unit_eq, Option.bind_some]
    simp only [tup]
    rw [bneDie, e, if_neg (by simp), show n = ord s from by omega]
  | succ m ih =>
    intro n k hn h1 hk
    obtain ⟨k, rfl⟩ : ∃ q, k = q + 1 := ⟨k - 1, by omega⟩
    have hne := ord_least s n h1 (by omega)
    have h4 := (ord_some s).2
    have hu : wrap64 ((n : Int) + 1) = ((n + 1 : Nat) : Int) := by unfold wrap64; omega
    rw [spec_OrderOfRolls.l0, unit_eq, Option.bind_some]
    simp only [tup]
    rw [bneDie, decide_eq_false hne, if_pos (by rfl), if_pos (by omega), diRun_at s hg (it s n) k (by omega), Option.bind_some, hu]
    exact ih (n + 1) k (by omega) (by omega) (by omega)

theorem orderOfRolls (s : ByteArray) (hb : s.size ≤ 140737488351232) : ∃ k, laws_FnExactOrderOfRolls.f k s = some true := by
  refine ⟨s.size + 200, ?_⟩
  unfold laws_FnExactOrderOfRolls.f
  by_cases h : (s.size : Int) > 1048576
  · rw [if_pos h]
  · rw [if_neg h, spec_OrderOfRolls.f, impl_OrderOfRolls.f, diWord_at s (by omega) _ (by omega), if_pos (by omega), Option.bind_some]
    simp only [Option.bind_some]
    cases hg : goodWord s with
    | false => simp
    | true =>
      have h1 := (ord_some s).1
      have hm := order_l0 s hg (ord s - 1) 1 (s.size + 200) (by omega) (by omega) (by have := (ord_some s).2; omega)
      have hr := diRun_at s hg plain (s.size + 200) (by omega)
      rw [if_pos rfl, unit_eq, Option.bind_some]
      simp only [tup] at hr ⊢
      rw [hr, Option.bind_some]
      have hm2 : spec_OrderOfRolls.l0 (s.size + 200) s 1 (rolled plain (dirs s)).t (rolled plain (dirs s)).n (rolled plain (dirs s)).e (rolled plain (dirs s)).s (rolled plain (dirs s)).w (rolled plain (dirs s)).b = some ((ord s : Int), true) := hm
      simp only
      rw [hm2]
      simp
end Go.Proofs.YtdlifinfjjbmkaaDoor.PureWo
