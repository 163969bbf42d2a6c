/- Plain laws on words: RollWord, AreSameRolls. Conditions: none but that a text has at most 2^47 bytes. -/
import Derived.Test.YtdlifinfjjbmkaaDoorQWbx
import Derived.Test.YtdlifinfjjbmkaaDoorWords
namespace Go.Proofs.YtdlifinfjjbmkaaDoor.PureWb
open Go.RowKit Go.Proofs.YtdlifinfjjbmkaaDoor.QWb Go.Proofs.YtdlifinfjjbmkaaDoorW.PrintWords Go.Proofs.YtdlifinfjjbmkaaDoorW.PrintLast Go.Proofs.YtdlifinfjjbmkaaDoor.IsDie Go.Proofs.YtdlifinfjjbmkaaDoor.Words
open Go.Proofs.YtdlifinfjjbmkaaDoor.Dice (Die roll rolled plain)
open Go.Proofs.YtdlifinfjjbmkaaDoor.Rolled (text text_size dirs dirs_text dirs_length dirOf text_snoc tup)
set_option linter.unusedVariables false
set_option linter.unusedSimpArgs false

theorem succ_wrap {i : Nat} (h : i < 1000000) : wrap64 ((i : Int) + 1) = ((i + 1 : Nat) : Int) := by
  unfold wrap64
  omega

theorem l1In_eq (n : Int) : spec_l1In.f n 0 9 = some (inB n) := by
  unfold spec_l1In.f inB
  by_cases h : 0 ≤ n
  · rw [if_pos h]
    simp [h]
  · rw [if_neg h]
    simp [h]
theorem all_at (xs : List Int) (hl : xs.length ≤ 1000) : ∀ (d i k : Nat), i + d = xs.length → d < k → spec_l1All.l0 k 0 9 xs xs.length i = some ((xs.drop i).all inB) := by
  intro d
  induction d with
  | zero =>
    intro i k hi hk
    obtain ⟨k, rfl⟩ : ∃ m, k = m + 1 := ⟨k - 1, by omega⟩
    rw [spec_l1All.l0, if_neg (by omega), List.drop_eq_nil_of_le (by omega)]
    rfl
  | succ d ih =>
    intro i k hi hk
    obtain ⟨k, rfl⟩ : ∃ m, k = m + 1 := ⟨k - 1, by omega⟩
    have hlt : i < xs.length := by omega
    rw [spec_l1All.l0, if_pos (by omega), if_pos (by omega), if_pos (by omega), l1In_eq]
    simp only [Option.bind_some]
    rw [List.drop_eq_getElem_cons hlt, List.all_cons]
    have hr : rd xs i = xs[i] := by simp [rd, hlt]
    rw [hr]
    cases inB xs[i] with
    | true =>
      rw [if_pos rfl, succ_wrap (by omega), ih (i + 1) k (by omega) (by omega)]
      simp
    | false => simp
theorem diGood_at (a0 a1 a2 a3 a4 a5 : Int) (k : Nat) (hk : 7 ≤ k) : spec_diGood.f k a0 a1 a2 a3 a4 a5 = some (good a0 a1 a2 a3 a4 a5) := by
  unfold spec_diGood.f spec_diFaces.f spec_l1All.f
  simp only [Option.bind_some]
  have := all_at [a0, a1, a2, a3, a4, a5] (by simp) 6 0 k (by simp) (by omega)
  simp only [Int.natCast_zero, List.drop_zero] at this
  rw [this]
  rfl

theorem iroll_eq (d : Die) (c : Int) : impl_Die_roll.f d.t d.n d.e d.s d.w d.b c = some (tup (roll d (dirOf c))) := by
  unfold impl_Die_roll.f dirOf
  by_cases h1 : c = 110
  · simp [h1, roll]
  · by_cases h2 : c = 101
    · simp [h2, roll]
    · by_cases h3 : c = 115
      · simp [h3, roll]
      · simp [h1, h2, h3, roll]
theorem rolled_at (s : ByteArray) (hs : s.size ≤ 100000) : ∀ (n i k : Nat) (d : Die), i + n = s.size → n < k →
    impl_Die_rolled.l0 k s s.size i d.t d.n d.e d.s d.w d.b = some (tup (rolled d ((dirs s).drop i))) := by
  intro n
  induction n with
  | zero =>
    intro i k d hi hk
    obtain ⟨k, rfl⟩ : ∃ m, k = m + 1 := ⟨k - 1, by omega⟩
    rw [impl_Die_rolled.l0, if_neg (by omega), List.drop_eq_nil_of_le (by rw [Rolled.dirs_length]; omega)]
    rfl
  | succ n ih =>
    intro i k d hi hk
    obtain ⟨k, rfl⟩ : ∃ m, k = m + 1 := ⟨k - 1, by omega⟩
    have hlt : i < (dirs s).length := by rw [Rolled.dirs_length]; omega
    rw [impl_Die_rolled.l0, if_pos (by omega), if_pos (by omega), if_pos (by omega), iroll_eq]
    simp only [Option.bind_some]
    rw [succ_wrap (by omega), List.drop_eq_getElem_cons hlt]
    have hc : (dirs s)[i] = dirOf (bt s i) := by
      have hi2 : i < s.size := by omega
      simp [dirs, bt, hi2]
      rfl
    rw [hc]
    exact ih (i + 1) k (roll d (dirOf (bt s i))) (by omega) (by omega)
theorem rolled_ev (s : ByteArray) (hs : s.size ≤ 100000) (d : Die) : Ev (fun k => impl_Die_rolled.f k d.t d.n d.e d.s d.w d.b s) (tup (rolled d (dirs s))) := by
  refine ⟨s.size + 1, fun k hk => ?_⟩
  unfold impl_Die_rolled.f
  exact rolled_at s hs s.size 0 k d (by omega) (by omega)

theorem diDir_at (s : ByteArray) (k : Nat) : spec_diDir.f (k + 5) s = some (dirIx s) := by
  have e0 : ((⟨#[110, 101, 115, 119]⟩ : ByteArray).extract 0 1).toList = [110] := by rw [Go.Lib.toList_data, ByteArray.data_extract]; rfl
  have e1 : ((⟨#[110, 101, 115, 119]⟩ : ByteArray).extract 1 2).toList = [101] := by rw [Go.Lib.toList_data, ByteArray.data_extract]; rfl
  have e2 : ((⟨#[110, 101, 115, 119]⟩ : ByteArray).extract 2 3).toList = [115] := by rw [Go.Lib.toList_data, ByteArray.data_extract]; rfl
  have e3 : ((⟨#[110, 101, 115, 119]⟩ : ByteArray).extract 3 4).toList = [119] := by rw [Go.Lib.toList_data, ByteArray.data_extract]; rfl
  have z : (((⟨#[110, 101, 115, 119]⟩ : ByteArray).size : Nat) : Int) = 4 := rfl
  have w1 : wrap64 ((0 : Int) + 1) = 1 := by unfold wrap64; omega
  have w2 : wrap64 ((1 : Int) + 1) = 2 := by unfold wrap64; omega
  have w3 : wrap64 ((2 : Int) + 1) = 3 := by unfold wrap64; omega
  have w4 : wrap64 ((3 : Int) + 1) = 4 := by unfold wrap64; omega
  have t0 : Int.toNat 0 = 0 := rfl
  have t1 : Int.toNat 1 = 1 := rfl
  have t2 : Int.toNat 2 = 2 := rfl
  have t3 : Int.toNat 3 = 3 := rfl
  have t4 : Int.toNat 4 = 4 := rfl
  unfold spec_diDir.f dirIx
  rw [spec_diDir.l0, spec_diDirs.f, Option.bind_some, w1, z, t0, t1, e0, if_pos (by omega), if_pos (by omega), if_pos (by omega), if_pos (by omega)]
  by_cases h0 : s.toList = [110]
  · rw [if_pos h0, if_pos h0]
  rw [if_neg h0, if_neg h0, spec_diDir.l0, spec_diDirs.f, Option.bind_some, w2, z, t1, t2, e1, if_pos (by omega), if_pos (by omega), if_pos (by omega), if_pos (by omega)]
  by_cases h1 : s.toList = [101]
  · rw [if_pos h1, if_pos h1]
  rw [if_neg h1, if_neg h1, spec_diDir.l0, spec_diDirs.f, Option.bind_some, w3, z, t2, t3, e2, if_pos (by omega), if_pos (by omega), if_pos (by omega), if_pos (by omega)]
  by_cases h2 : s.toList = [115]
  · rw [if_pos h2, if_pos h2]
  rw [if_neg h2, if_neg h2, spec_diDir.l0, spec_diDirs.f, Option.bind_some, w4, z, t3, t4, e3, if_pos (by omega), if_pos (by omega), if_pos (by omega), if_pos (by omega)]
  by_cases h3 : s.toList = [119]
  · rw [if_pos h3, if_pos h3]
  rw [if_neg h3, if_neg h3, spec_diDir.l0, if_neg (by omega)]

theorem wrap_up {i n : Nat} (h : i < n) (hn : n ≤ 1048576) : wrap64 ((i : Int) + 1) = ((i + 1 : Nat) : Int) := by
  unfold wrap64
  omega
/-- One letter of a text, as the reference reads it. -/
theorem diDir_ch (s : ByteArray) (i : Nat) (h : i < s.data.toList.length) (k : Nat) (hk : 5 ≤ k) :
    spec_diDir.f k (s.extract i (i + 1)) = some (if letters.contains s.data.toList[i] = true then (dirOf s.data.toList[i].toNat : Int) else -1) := by
  obtain ⟨m, rfl⟩ : ∃ m, k = m + 5 := ⟨k - 5, by omega⟩
  rw [diDir_at, extract_one s i h, dirIx_one]
theorem diWord_l0 (s : ByteArray) (hs : s.size ≤ 1048576) : ∀ (n i k : Nat), i + n = s.size → n + 6 < k → spec_diWord.l0 k s i = some (isW (s.data.toList.drop i)) := by
  intro n
  induction n with
  | zero =>
    intro i k hi hk
    obtain ⟨k, rfl⟩ : ∃ m, k = m + 1 := ⟨k - 1, by omega⟩
    rw [spec_diWord.l0, if_neg (by omega), List.drop_eq_nil_of_le (by show s.size ≤ i; omega)]
    rfl
  | succ n ih =>
    intro i k hi hk
    obtain ⟨k, rfl⟩ : ∃ m, k = m + 1 := ⟨k - 1, by omega⟩
    have hl : i < s.data.toList.length := by show i < s.size; omega
    rw [spec_diWord.l0, if_pos (by omega), wrap_up (n := s.size) (by omega) hs, if_pos (by omega), if_pos (by omega), if_pos (by omega), Int.toNat_natCast, Int.toNat_natCast, diDir_ch s i hl k (by omega), Option.bind_some]
    rw [List.drop_eq_getElem_cons hl]
    unfold isW
    rw [List.all_cons]
    by_cases hc : letters.contains s.data.toList[i] = true
    · rw [if_pos hc, if_neg (by omega), ih (i + 1) k (by omega) (by omega), hc]
      rfl
    · rw [if_neg hc, if_pos (by omega)]
      simp only [Bool.not_eq_true] at hc
      rw [hc]
      rfl
theorem diWord_at (s : ByteArray) (hs : s.size ≤ 1048576) (k : Nat) (hk : s.size + 7 < k) : spec_diWord.f k s = some (goodWord s) := by
  unfold spec_diWord.f goodWord
  by_cases h : s.size ≤ 60
  · rw [if_neg (by omega), show ((0 : Int)) = ((0 : Nat) : Int) from rfl, diWord_l0 s hs s.size 0 k (by omega) (by omega), List.drop_zero]
    simp [h]
  · rw [if_pos (by omega)]
    simp [h]
theorem isRolls_eq (s : ByteArray) (hs : s.size ≤ 1048576) : impl_IsRolls.f s = some (goodWord s) := by
  unfold impl_IsRolls.f strings_Trim.f Go.Proofs.YtdlifinfjjbmkaaDoor.Lib.trim goodWord
  by_cases h : s.size ≤ 60
  · rw [if_pos (by omega), if_pos ⟨by omega, by decide⟩, Option.bind_some]
    congr 1
    rw [Go.Lib.toList_data, Bool.eq_iff_iff]
    simp only [beq_iff_eq, decide_eq_true h, Bool.true_and]
    exact trim_nil s.data.toList letters
  · rw [if_neg (by omega)]
    simp [h]

theorem diRoll_eq (d : Die) (k : Nat) (hk : k < 4) : spec_diRoll.f d.t d.n d.e d.s d.w d.b k = some (tup (roll d k)) := by
  unfold spec_diRoll.f
  rcases k with _ | _ | _ | _ | k
  · simp [roll]
  · simp [roll]
  · simp [roll]
  · simp [roll]
  · omega
theorem diRun_l0 (s : ByteArray) (hs : s.size ≤ 1048576) (hw : isW s.data.toList = true) : ∀ (n i k : Nat) (d : Die), i + n = s.size → n + 6 < k →
    spec_diRun.l0 k s i d.t d.n d.e d.s d.w d.b = some (tup (rolled d ((dirs s).drop i))) := by
  intro n
  induction n with
  | zero =>
    intro i k d hi hk
    obtain ⟨k, rfl⟩ : ∃ m, k = m + 1 := ⟨k - 1, by omega⟩
    rw [spec_diRun.l0, if_neg (by omega), List.drop_eq_nil_of_le (by rw [dirs_length]; omega)]
    rfl
  | succ n ih =>
    intro i k d hi hk
    obtain ⟨k, rfl⟩ : ∃ m, k = m + 1 := ⟨k - 1, by omega⟩
    have hl : i < s.data.toList.length := by show i < s.size; omega
    rw [spec_diRun.l0, if_pos (by omega), wrap_up (n := s.size) (by omega) hs, if_pos (by omega), if_pos (by omega), if_pos (by omega), Int.toNat_natCast, Int.toNat_natCast, diDir_ch s i hl k (by omega), Option.bind_some, if_pos (isW_at hw i hl), diRoll_eq d _ (dirOf_lt _), Option.bind_some, dirs_at s i hl]
    exact ih (i + 1) k (roll d (dirOf s.data.toList[i].toNat)) (by omega) (by omega)
theorem diRun_at (s : ByteArray) (hw : goodWord s = true) (d : Die) (k : Nat) (hk : 67 < k) : spec_diRun.f k d.t d.n d.e d.s d.w d.b s = some (tup (rolled d (dirs s))) := by
  obtain ⟨h1, h2⟩ := good_small hw
  unfold spec_diRun.f
  exact diRun_l0 s (by omega) h2 s.size 0 k d (by omega) (by omega)
theorem iRolled_at (s : ByteArray) (hw : goodWord s = true) (d : Die) (k : Nat) (hk : 67 < k) : impl_Die_rolled.f k d.t d.n d.e d.s d.w d.b s = some (tup (rolled d (dirs s))) := by
  obtain ⟨h1, h2⟩ := good_small hw
  unfold impl_Die_rolled.f
  exact rolled_at s (by omega) s.size 0 k d (by omega) (by omega)

theorem eqSelf (a b c d e f : Int) : laws_eqDie.f a b c d e f a b c d e f = some true := by
  simp [laws_eqDie.f]

theorem rollWord (a0 a1 a2 a3 a4 a5 : Int) (s : ByteArray) : ∃ k, laws_FnExactRollWord.f k a0 a1 a2 a3 a4 a5 s = some true := by
  refine ⟨s.size + 100, ?_⟩
  unfold laws_FnExactRollWord.f
  by_cases h : (s.size : Int) > 1048576
  · rw [if_pos h]
  · rw [if_neg h]
    simp only [laws_toDie.f, Option.bind_some, spec_RollWord.f, impl_RollWord.f, impl_IsDie.f]
    rw [diGood_at _ _ _ _ _ _ _ (by omega), Option.bind_some, diWord_at s (by omega) _ (by omega), isRolls_eq s (by omega), Option.bind_some]
    cases good a0 a1 a2 a3 a4 a5 with
    | false => simp [eqSelf]
    | true =>
      cases hg : goodWord s with
      | false => simp [eqSelf]
      | true =>
        have h1 := diRun_at s hg ⟨a0, a1, a2, a3, a4, a5⟩ (s.size + 100) (by omega)
        have h2 := iRolled_at s hg ⟨a0, a1, a2, a3, a4, a5⟩ (s.size + 100) (by omega)
        simp only at h1 h2
        simp [h1, h2, eqSelf]

theorem areSameRolls (s t : ByteArray) : ∃ k, laws_FnExactAreSameRolls.f k s t = some true := by
  refine ⟨s.size + t.size + 101, ?_⟩
  unfold laws_FnExactAreSameRolls.f
  by_cases h : (s.size : Int) > 1048576
  · rw [if_pos h]
  by_cases h' : (t.size : Int) > 1048576
  · rw [if_neg h, if_pos h']
  · rw [if_neg h, if_neg h', spec_AreSameRolls.f, impl_AreSameRolls.f, diWord_at s (by omega) _ (by omega), isRolls_eq s (by omega), diWord_at t (by omega) _ (by omega), isRolls_eq t (by omega)]
    simp only [Option.bind_some]
    have e : s.size + t.size + 101 = (s.size + t.size + 100) + 1 := rfl
    rw [e]
    cases hg : goodWord s with
    | false => simp [spec_AreSameRolls.j0, impl_AreSameRolls.j0]
    | true =>
      cases hg2 : goodWord t with
      | false => simp [spec_AreSameRolls.j0, impl_AreSameRolls.j0]
      | true =>
        have h1 := diRun_at s hg plain (s.size + t.size + 100) (by omega)
        have h2 := iRolled_at s hg plain (s.size + t.size + 100) (by omega)
        have h3 := diRun_at t hg2 plain (s.size + t.size + 100) (by omega)
        have h4 := iRolled_at t hg2 plain (s.size + t.size + 100) (by omega)
        simp only [plain] at h1 h2 h3 h4
        simp only [Bool.not_true, if_true, spec_AreSameRolls.j0, impl_AreSameRolls.j0, spec_diUnit.f, spec_diOf.f, impl_plain.f]
        simp [h1, h2, h3, h4, rd]
end Go.Proofs.YtdlifinfjjbmkaaDoor.PureWb
