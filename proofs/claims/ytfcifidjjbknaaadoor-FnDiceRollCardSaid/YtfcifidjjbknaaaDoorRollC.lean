/- The calls on dice and words of FnDiceRoll, in plain words. Conditions: texts of at most 2^20 bytes. -/
import Derived.Test.YtfcifidjjbknaaaDoorQDax
import Derived.Test.YtfcifidjjbknaaaDoorOrder
import Derived.Test.YtfcifidjjbknaaaDoorIsDir
namespace Go.Proofs.YtfcifidjjbknaaaDoor.RollC
open Go.RowKit Go.Proofs.YtfcifidjjbknaaaDoor.QDa Go.Proofs.YtfcifidjjbknaaaDoorW.PrintWords Go.Proofs.YtfcifidjjbknaaaDoorW.PrintLast Go.Proofs.YtfcifidjjbknaaaDoor.IsDie Go.Proofs.YtfcifidjjbknaaaDoor.IsDir Go.Proofs.YtfcifidjjbknaaaDoor.Words
open Go.Proofs.YtfcifidjjbknaaaDoor.Dice (Die roll rolled plain)
open Go.Proofs.YtfcifidjjbknaaaDoor.Dirs (text text_size dirs dirs_text dirs_length dirOf text_snoc tup)
open Go.Proofs.YtfcifidjjbknaaaDoor.Turned (turnByte)
set_option linter.unusedVariables false
set_option linter.unusedSimpArgs false

def gd (d : Die) : Bool := good d.t d.n d.e d.s d.w d.b
def Z : Die := ⟨0, 0, 0, 0, 0, 0⟩
abbrev sx (d : Die) : Array Value := #[.int .i64 d.t, .int .i64 d.n, .int .i64 d.e, .int .i64 d.s, .int .i64 d.w, .int .i64 d.b]
def rwB (d : Die) (s : ByteArray) : Bool := gd d && goodWord s
def rwD (d : Die) (s : ByteArray) : Die := if rwB d s = true then rolled d (dirs s) else Z
def rdB (d : Die) (s : ByteArray) : Bool := gd d && isDirB s
def rdD (d : Die) (s : ByteArray) : Die := if rdB d s = true then roll d (dirOf (bt s 0)) else Z
def tn : Nat → Die → Die
  | 0, d => d
  | n + 1, d => tn n ⟨d.t, d.w, d.n, d.e, d.s, d.b⟩
def tdB (d : Die) (k : Int) : Bool := gd d && decide (0 ≤ k ∧ k ≤ 3)
def tdD (d : Die) (k : Int) : Die := if tdB d k = true then tn k.toNat d else Z
theorem succ_wrap {i : Nat} (h : i < 1000000) : wrap64 ((i : Int) + 1) = ((i + 1 : Nat) : Int) := by
  unfold wrap64
  omega

theorem l1In_eq (n : Int) : spec_l1In.f n 0 9 = some (inB n) := by
  unfold spec_l1In.f inB
  by_cases h : 0 ≤ n
  · rw [if_pos h]
    simp [h]
  · rw [if_neg h]
    simp [h]
theorem all_at (xs : List Int) (hl : xs.length ≤ 1000) : ∀ (d i k : Nat), i + d = xs.length → d < k → spec_l1All.l0 k 0 9 xs xs.length i = some ((xs.drop i).all inB) := by
  intro d
  induction d with
  | zero =>
    intro i k hi hk
    obtain ⟨k, rfl⟩ : ∃ m, k = m + 1 := ⟨k - 1, by omega⟩
    rw [spec_l1All.l0, if_neg (by omega), List.drop_eq_nil_of_le (by omega)]
    rfl
  | succ d ih =>
    intro i k hi hk
    obtain ⟨k, rfl⟩ : ∃ m, k = m + 1 := ⟨k - 1, by omega⟩
    have hlt : i < xs.length := by omega
    rw [spec_l1All.l0, if_pos (by omega), if_pos (by omega), if_pos (by omega), l1In_eq]
    simp only [Option.bind_some]
    rw [List.drop_eq_getElem_cons hlt, List.all_cons]
    have hr : rd xs i = xs[i] := by simp [rd, hlt]
    rw [hr]
    cases inB xs[i] with
    | true =>
      rw [if_pos rfl, succ_wrap (by omega), ih (i + 1) k (by omega) (by omega)]
      simp
    | false => simp
theorem diGood_at (a0 a1 a2 a3 a4 a5 : Int) (k : Nat) (hk : 7 ≤ k) : spec_diGood.f k a0 a1 a2 a3 a4 a5 = some (good a0 a1 a2 a3 a4 a5) := by
  unfold spec_diGood.f spec_diFaces.f spec_l1All.f
  simp only [Option.bind_some]
  have := all_at [a0, a1, a2, a3, a4, a5] (by simp) 6 0 k (by simp) (by omega)
  simp only [Int.natCast_zero, List.drop_zero] at this
  rw [this]
  rfl
theorem rolled_ev (s : ByteArray) (hs : s.size ≤ 100000) (d : Die) : Ev (fun k => impl_Die_rolled.f k d.t d.n d.e d.s d.w d.b s) (tup (rolled d (dirs s))) := ⟨s.size + 1, fun k hk => by
  unfold impl_Die_rolled.f QBase.impl_Die_rolled.f
  exact Rolled.rolled_at s (by omega) s.size 0 k d (by omega) (by omega)⟩
theorem isRolls_eq (s : ByteArray) (hs : s.size ≤ 1048576) : impl_IsRolls.f s = some (goodWord s) := by
  unfold impl_IsRolls.f QWord.impl_IsRolls.f QWord.strings_Trim.f Go.Proofs.YtfcifidjjbknaaaDoor.Lib.trim goodWord
  by_cases h : s.size ≤ 60
  · rw [if_pos (by omega), if_pos ⟨by omega, by decide⟩, Option.bind_some]
    congr 1
    rw [Go.Lib.toList_data, Bool.eq_iff_iff]
    simp only [beq_iff_eq, decide_eq_true h, Bool.true_and]
    exact trim_nil s.data.toList letters
  · rw [if_neg (by omega)]
    simp [h]
theorem diDir_at (s : ByteArray) (k : Nat) : spec_diDir.f (k + 5) s = some (dirIx s) := by
  have e0 : ((⟨#[110, 101, 115, 119]⟩ : ByteArray).extract 0 1).toList = [110] := by rw [Go.Lib.toList_data, ByteArray.data_extract]; rfl
  have e1 : ((⟨#[110, 101, 115, 119]⟩ : ByteArray).extract 1 2).toList = [101] := by rw [Go.Lib.toList_data, ByteArray.data_extract]; rfl
  have e2 : ((⟨#[110, 101, 115, 119]⟩ : ByteArray).extract 2 3).toList = [115] := by rw [Go.Lib.toList_data, ByteArray.data_extract]; rfl
  have e3 : ((⟨#[110, 101, 115, 119]⟩ : ByteArray).extract 3 4).toList = [119] := by rw [Go.Lib.toList_data, ByteArray.data_extract]; rfl
  have z : (((⟨#[110, 101, 115, 119]⟩ : ByteArray).size : Nat) : Int) = 4 := rfl
  have w1 : wrap64 ((0 : Int) + 1) = 1 := by unfold wrap64; omega
  have w2 : wrap64 ((1 : Int) + 1) = 2 := by unfold wrap64; omega
  have w3 : wrap64 ((2 : Int) + 1) = 3 := by unfold wrap64; omega
  have w4 : wrap64 ((3 : Int) + 1) = 4 := by unfold wrap64; omega
  have t0 : Int.toNat 0 = 0 := rfl
  have t1 : Int.toNat 1 = 1 := rfl
  have t2 : Int.toNat 2 = 2 := rfl
  have t3 : Int.toNat 3 = 3 := rfl
  have t4 : Int.toNat 4 = 4 := rfl
  unfold spec_diDir.f dirIx
  rw [spec_diDir.l0, spec_diDirs.f, Option.bind_some, w1, z, t0, t1, e0, if_pos (by omega), if_pos (by omega), if_pos (by omega), if_pos (by omega)]
  by_cases h0 : s.toList = [110]
  · rw [if_pos h0, if_pos h0]
  rw [if_neg h0, if_neg h0, spec_diDir.l0, spec_diDirs.f, Option.bind_some, w2, z, t1, t2, e1, if_pos (by omega), if_pos (by omega), if_pos (by omega), if_pos (by omega)]
  by_cases h1 : s.toList = [101]
  · rw [if_pos h1, if_pos h1]
  rw [if_neg h1, if_neg h1, spec_diDir.l0, spec_diDirs.f, Option.bind_some, w3, z, t2, t3, e2, if_pos (by omega), if_pos (by omega), if_pos (by omega), if_pos (by omega)]
  by_cases h2 : s.toList = [115]
  · rw [if_pos h2, if_pos h2]
  rw [if_neg h2, if_neg h2, spec_diDir.l0, spec_diDirs.f, Option.bind_some, w4, z, t3, t4, e3, if_pos (by omega), if_pos (by omega), if_pos (by omega), if_pos (by omega)]
  by_cases h3 : s.toList = [119]
  · rw [if_pos h3, if_pos h3]
  rw [if_neg h3, if_neg h3, spec_diDir.l0, if_neg (by omega)]

theorem wrap_up {i n : Nat} (h : i < n) (hn : n ≤ 1048576) : wrap64 ((i : Int) + 1) = ((i + 1 : Nat) : Int) := by
  unfold wrap64
  omega
theorem diDir_ch (s : ByteArray) (i : Nat) (h : i < s.data.toList.length) (k : Nat) (hk : 5 ≤ k) :
    spec_diDir.f k (s.extract i (i + 1)) = some (if letters.contains s.data.toList[i] = true then (dirOf s.data.toList[i].toNat : Int) else -1) := by
  obtain ⟨m, rfl⟩ : ∃ m, k = m + 5 := ⟨k - 5, by omega⟩
  rw [diDir_at, extract_one s i h, dirIx_one]
theorem diWord_l0 (s : ByteArray) (hs : s.size ≤ 1048576) : ∀ (n i k : Nat), i + n = s.size → n + 6 < k → spec_diWord.l0 k s i = some (isW (s.data.toList.drop i)) := by
  intro n
  induction n with
  | zero =>
    intro i k hi hk
    obtain ⟨k, rfl⟩ : ∃ m, k = m + 1 := ⟨k - 1, by omega⟩
    rw [spec_diWord.l0, if_neg (by omega), List.drop_eq_nil_of_le (by show s.size ≤ i; omega)]
    rfl
  | succ n ih =>
    intro i k hi hk
    obtain ⟨k, rfl⟩ : ∃ m, k = m + 1 := ⟨k - 1, by omega⟩
    have hl : i < s.data.toList.length := by show i < s.size; omega
    rw [spec_diWord.l0, if_pos (by omega), wrap_up (n := s.size) (by omega) hs, if_pos (by omega), if_pos (by omega), if_pos (by omega), Int.toNat_natCast, Int.toNat_natCast, diDir_ch s i hl k (by omega), Option.bind_some]
    rw [List.drop_eq_getElem_cons hl]
    unfold isW
    rw [List.all_cons]
    by_cases hc : letters.contains s.data.toList[i] = true
    · rw [if_pos hc, if_neg (by omega), ih (i + 1) k (by omega) (by omega), hc]
      rfl
    · rw [if_neg hc, if_pos (by omega)]
      simp only [Bool.not_eq_true] at hc
      rw [hc]
      rfl
theorem diWord_at (s : ByteArray) (hs : s.size ≤ 1048576) (k : Nat) (hk : s.size + 7 < k) : spec_diWord.f k s = some (goodWord s) := by
  unfold spec_diWord.f goodWord
  by_cases h : s.size ≤ 60
  · rw [if_neg (by omega), show ((0 : Int)) = ((0 : Nat) : Int) from rfl, diWord_l0 s hs s.size 0 k (by omega) (by omega), List.drop_zero]
    simp [h]
  · rw [if_pos (by omega)]
    simp [h]
theorem diRoll_eq (d : Die) (k : Nat) (hk : k < 4) : spec_diRoll.f d.t d.n d.e d.s d.w d.b k = some (tup (roll d k)) := by
  unfold spec_diRoll.f
  rcases k with _ | _ | _ | _ | k
  · first | (simp [roll]; done) | simp [Go.Proofs.YtfcifidjjbknaaaDoor.DieRolls.sroll, roll]
  · first | (simp [roll]; done) | simp [Go.Proofs.YtfcifidjjbknaaaDoor.DieRolls.sroll, roll]
  · first | (simp [roll]; done) | simp [Go.Proofs.YtfcifidjjbknaaaDoor.DieRolls.sroll, roll]
  · first | (simp [roll]; done) | simp [Go.Proofs.YtfcifidjjbknaaaDoor.DieRolls.sroll, roll]
  · omega
theorem diRun_l0 (s : ByteArray) (hs : s.size ≤ 1048576) (hw : isW s.data.toList = true) : ∀ (n i k : Nat) (d : Die), i + n = s.size → n + 6 < k →
    spec_diRun.l0 k s i d.t d.n d.e d.s d.w d.b = some (tup (rolled d ((dirs s).drop i))) := by
  intro n
  induction n with
  | zero =>
    intro i k d hi hk
    obtain ⟨k, rfl⟩ : ∃ m, k = m + 1 := ⟨k - 1, by omega⟩
    rw [spec_diRun.l0, if_neg (by omega), List.drop_eq_nil_of_le (by rw [dirs_length]; omega)]
    rfl
  | succ n ih =>
    intro i k d hi hk
    obtain ⟨k, rfl⟩ : ∃ m, k = m + 1 := ⟨k - 1, by omega⟩
    have hl : i < s.data.toList.length := by show i < s.size; omega
    rw [spec_diRun.l0, if_pos (by omega), wrap_up (n := s.size) (by omega) hs, if_pos (by omega), if_pos (by omega), if_pos (by omega), Int.toNat_natCast, Int.toNat_natCast, diDir_ch s i hl k (by omega), Option.bind_some, if_pos (isW_at hw i hl), diRoll_eq d _ (dirOf_lt _), Option.bind_some, dirs_at s i hl]
    exact ih (i + 1) k (roll d (dirOf s.data.toList[i].toNat)) (by omega) (by omega)
theorem diRun_at (s : ByteArray) (hw : goodWord s = true) (d : Die) (k : Nat) (hk : 67 < k) : spec_diRun.f k d.t d.n d.e d.s d.w d.b s = some (tup (rolled d (dirs s))) := by
  obtain ⟨h1, h2⟩ := good_small hw
  unfold spec_diRun.f
  exact diRun_l0 s (by omega) h2 s.size 0 k d (by omega) (by omega)
theorem iRolled_at (s : ByteArray) (hw : goodWord s = true) (d : Die) (k : Nat) (hk : 67 < k) : impl_Die_rolled.f k d.t d.n d.e d.s d.w d.b s = some (tup (rolled d (dirs s))) := by
  obtain ⟨h1, h2⟩ := good_small hw
  unfold impl_Die_rolled.f QBase.impl_Die_rolled.f
  exact Rolled.rolled_at s (by omega) s.size 0 k d (by omega) (by omega)
theorem no_dir {s : ByteArray} (h : isDirB s = false) : dirIx s = -1 := by
  obtain ⟨⟨l⟩⟩ := s
  unfold dirIx
  rw [Go.Lib.toList_data]
  by_cases hl : l.length = 1
  · obtain ⟨c, rfl⟩ : ∃ c, l = [c] := List.length_eq_one_iff.1 hl
    have hz : (⟨⟨[c]⟩⟩ : ByteArray).size = 1 := rfl
    simp only [isDirB, hz, beq_self_eq_true, Bool.true_and, List.headD_cons] at h
    rw [if_neg, if_neg, if_neg, if_neg]
    all_goals
      intro e
      injection e with e
      subst e
      revert h
      decide
  · rw [if_neg, if_neg, if_neg, if_neg]
    all_goals
      intro e
      exact hl (by simpa using congrArg List.length e)

theorem is_dir {s : ByteArray} (h : isDirB s = true) : s = ⟨⟨[110]⟩⟩ ∨ s = ⟨⟨[101]⟩⟩ ∨ s = ⟨⟨[115]⟩⟩ ∨ s = ⟨⟨[119]⟩⟩ := by
  obtain ⟨⟨l⟩⟩ := s
  by_cases hl : l.length = 1
  · obtain ⟨c, rfl⟩ : ∃ c, l = [c] := List.length_eq_one_iff.1 hl
    have hz : (⟨⟨[c]⟩⟩ : ByteArray).size = 1 := rfl
    simp only [isDirB, hz, beq_self_eq_true, Bool.true_and, List.headD_cons, Lib.indexByte] at h
    by_cases h0 : c = 110
    · subst h0; exact .inl rfl
    by_cases h1 : c = 101
    · subst h1; exact .inr (.inl rfl)
    by_cases h2 : c = 115
    · subst h2; exact .inr (.inr (.inl rfl))
    by_cases h3 : c = 119
    · subst h3; exact .inr (.inr (.inr rfl))
    simp [Ne.symm h0, Ne.symm h1, Ne.symm h2, Ne.symm h3] at h
  · have hz : (⟨⟨l⟩⟩ : ByteArray).size = l.length := rfl
    have hb : ((⟨⟨l⟩⟩ : ByteArray).size == 1) = false := by rw [hz]; simpa using hl
    rw [isDirB, hb] at h
    cases h


theorem rollWordI (d : Die) (s : ByteArray) (hs : s.size ≤ 1048576) (w : World) : Calls Tryd.prog 6 #[.agg (sx d), .string s] w fun e w' => e = .returned (.tuple #[.agg (sx (rwD d s)), .bool (rwB d s)]) ∧ Below w.heap.size w w' := by
  refine impl_RollWord.calls (s.size + 100) d.t d.n d.e d.s d.w d.b s _ _ _ _ _ _ _ w ?_
  unfold impl_RollWord.f rwD rwB gd
  simp only [impl_IsDie.f, Option.bind_some]
  rw [isRolls_eq s hs, Option.bind_some]
  cases good d.t d.n d.e d.s d.w d.b with
  | false => rfl
  | true =>
    cases hg : goodWord s with
    | false => rfl
    | true =>
      have h := iRolled_at s hg d (s.size + 100) (by omega)
      rw [if_pos rfl, if_pos rfl, h]
      rfl
theorem rollWordS (d : Die) (s : ByteArray) (hs : s.size ≤ 1048576) (w : World) : Calls Tryd.prog 7 #[.agg (sx d), .string s] w fun e w' => e = .returned (.tuple #[.agg (sx (rwD d s)), .bool (rwB d s)]) ∧ Below w.heap.size w w' := by
  refine spec_RollWord.calls (s.size + 100) d.t d.n d.e d.s d.w d.b s _ _ _ _ _ _ _ w ?_
  unfold spec_RollWord.f rwD rwB gd
  rw [diGood_at _ _ _ _ _ _ _ (by omega), Option.bind_some, diWord_at s hs _ (by omega), Option.bind_some]
  cases good d.t d.n d.e d.s d.w d.b with
  | false => rfl
  | true =>
    cases hg : goodWord s with
    | false => rfl
    | true =>
      have h := diRun_at s hg d (s.size + 100) (by omega)
      rw [if_pos rfl, if_pos rfl, h]
      rfl
theorem rollDieI (d : Die) (s : ByteArray) (w : World) : Calls Tryd.prog 8 #[.agg (sx d), .string s] w fun e w' => e = .returned (.tuple #[.agg (sx (rdD d s)), .bool (rdB d s)]) ∧ Below w.heap.size w w' := by
  refine impl_RollDie.calls d.t d.n d.e d.s d.w d.b s _ _ _ _ _ _ _ w ?_
  unfold impl_RollDie.f rdD rdB gd
  simp only [impl_IsDie.f, impl_isDir.f, Option.bind_some]
  cases good d.t d.n d.e d.s d.w d.b with
  | false => rfl
  | true =>
    cases h : isDirB s with
    | false => rfl
    | true =>
      have hz : 0 < (s.size : Int) := by
        rcases is_dir h with rfl | rfl | rfl | rfl <;> decide
      have hr := Rolled.roll_eq d (bt s 0)
      rw [if_pos rfl, if_pos rfl, if_pos hz]
      unfold impl_Die_roll.f
      unfold QBase.impl_Die_roll.f at hr
      rw [hr]
      rfl
theorem rollDieS (d : Die) (s : ByteArray) (w : World) : Calls Tryd.prog 14 #[.agg (sx d), .string s] w fun e w' => e = .returned (.tuple #[.agg (sx (rdD d s)), .bool (rdB d s)]) ∧ Below w.heap.size w w' := by
  refine spec_RollDie.calls (7 + 5) d.t d.n d.e d.s d.w d.b s _ _ _ _ _ _ _ w ?_
  unfold spec_RollDie.f rdD rdB gd
  rw [diGood_at _ _ _ _ _ _ _ (by omega), Option.bind_some, diDir_at, Option.bind_some]
  cases good d.t d.n d.e d.s d.w d.b with
  | false =>
    rw [if_neg (by decide), spec_RollDie.j0, if_pos rfl]
    rfl
  | true =>
    rw [if_pos rfl]
    cases h : isDirB s with
    | false =>
      rw [no_dir h, spec_RollDie.j0, if_pos (by decide)]
      rfl
    | true =>
      have f4 : (7 + 5 : Nat) = 6 + 5 + 1 := rfl
      rw [f4, spec_RollDie.j0, diDir_at, Option.bind_some]
      have i0 : dirIx ⟨⟨[110]⟩⟩ = 0 := by unfold dirIx; rw [one]; rfl
      have i1 : dirIx ⟨⟨[101]⟩⟩ = 1 := by unfold dirIx; rw [one]; rfl
      have i2 : dirIx ⟨⟨[115]⟩⟩ = 2 := by unfold dirIx; rw [one]; rfl
      have i3 : dirIx ⟨⟨[119]⟩⟩ = 3 := by unfold dirIx; rw [one]; rfl
      rcases is_dir h with rfl | rfl | rfl | rfl
      all_goals
        first | rw [i0] | rw [i1] | rw [i2] | rw [i3]
        rw [if_neg (by decide)]
        first | rfl | (simp [spec_diRoll.f, DieRolls.sroll]; done) | (simp [spec_diRoll.f, DieRolls.sroll]; rfl)
theorem spec_turns : ∀ (n : Nat) (hn : n ≤ 3) (k : Nat) (d : Die), n < k → spec_TurnDie.l0 k n d.t d.n d.e d.s d.w d.b = some ((tn n d).t, (tn n d).n, (tn n d).e, (tn n d).s, (tn n d).w, (tn n d).b, true)
  | 0, _, k, d, hk => by
    obtain ⟨k, rfl⟩ : ∃ m, k = m + 1 := ⟨k - 1, by omega⟩
    rw [spec_TurnDie.l0, if_neg (by simp)]
    rfl
  | n + 1, hn, k, d, hk => by
    obtain ⟨k, rfl⟩ : ∃ m, k = m + 1 := ⟨k - 1, by omega⟩
    have hw : wrap64 (((n + 1 : Nat) : Int) - 1) = (n : Int) := by
      unfold wrap64
      omega
    rw [spec_TurnDie.l0, if_pos (by omega), hw]
    simp only [spec_diTurn.f, Option.bind_some]
    exact spec_turns n (by omega) k ⟨d.t, d.w, d.n, d.e, d.s, d.b⟩ (by omega)
theorem impl_turns (m : Nat) (hm : m ≤ 3) : ∀ (n : Nat) (i : Nat), i + n = m → ∀ (k : Nat) (d : Die), n < k → impl_TurnDie.l0 k m i d.t d.n d.e d.s d.w d.b = some ((tn n d).t, (tn n d).n, (tn n d).e, (tn n d).s, (tn n d).w, (tn n d).b, true)
  | 0, i, hi, k, d, hk => by
    obtain ⟨k, rfl⟩ : ∃ m, k = m + 1 := ⟨k - 1, by omega⟩
    rw [impl_TurnDie.l0, if_neg (by omega)]
    rfl
  | n + 1, i, hi, k, d, hk => by
    obtain ⟨k, rfl⟩ : ∃ m, k = m + 1 := ⟨k - 1, by omega⟩
    have hw : wrap64 ((i : Int) + 1) = ((i + 1 : Nat) : Int) := by
      unfold wrap64
      omega
    rw [impl_TurnDie.l0, if_pos (by omega), hw]
    simp only [impl_Die_turn.f, Option.bind_some]
    exact impl_turns m hm n (i + 1) (by omega) k ⟨d.t, d.w, d.n, d.e, d.s, d.b⟩ (by omega)
theorem l1In3 (n : Int) : spec_l1In.f n 0 3 = some (decide (0 ≤ n ∧ n ≤ 3)) := by
  unfold spec_l1In.f
  by_cases h : 0 ≤ n
  · rw [if_pos h]
    simp [h]
  · rw [if_neg h]
    simp [h]
theorem in3 (n : Int) : impl_in.f n 0 3 = some (decide (0 ≤ n ∧ n ≤ 3)) := by
  unfold impl_in.f
  by_cases h : 0 ≤ n
  · rw [if_pos h]
    simp [h]
  · rw [if_neg h]
    simp [h]

theorem turnDieI (d : Die) (n : Int) (w : World) : Calls Tryd.prog 11 #[.agg (sx d), .int .i64 n] w fun e w' => e = .returned (.tuple #[.agg (sx (tdD d n)), .bool (tdB d n)]) ∧ Below w.heap.size w w' := by
  refine impl_TurnDie.calls 8 d.t d.n d.e d.s d.w d.b n _ _ _ _ _ _ _ w ?_
  unfold impl_TurnDie.f tdD tdB gd
  rw [in3]
  simp only [impl_IsDie.f, Option.bind_some]
  cases good d.t d.n d.e d.s d.w d.b with
  | false =>
    rw [if_neg (by decide), impl_TurnDie.j0, if_pos rfl]
    rfl
  | true =>
    rw [if_pos rfl]
    by_cases h : 0 ≤ n ∧ n ≤ 3
    · obtain ⟨m, rfl⟩ := Int.eq_ofNat_of_zero_le h.1
      rw [impl_TurnDie.j0, decide_eq_true h, if_neg (by decide), Bool.true_and, if_pos rfl, Int.toNat_natCast]
      exact impl_turns m (by omega) m 0 (by omega) 7 d (by omega)
    · rw [impl_TurnDie.j0, decide_eq_false h, if_pos (by rfl)]
      rfl
theorem turnDieS (d : Die) (n : Int) (w : World) : Calls Tryd.prog 16 #[.agg (sx d), .int .i64 n] w fun e w' => e = .returned (.tuple #[.agg (sx (tdD d n)), .bool (tdB d n)]) ∧ Below w.heap.size w w' := by
  refine spec_TurnDie.calls 8 d.t d.n d.e d.s d.w d.b n _ _ _ _ _ _ _ w ?_
  unfold spec_TurnDie.f tdD tdB gd
  rw [diGood_at _ _ _ _ _ _ _ (by omega), l1In3]
  simp only [Option.bind_some]
  cases good d.t d.n d.e d.s d.w d.b with
  | false =>
    rw [if_neg (by decide), spec_TurnDie.j0, if_pos rfl]
    rfl
  | true =>
    rw [if_pos rfl]
    by_cases h : 0 ≤ n ∧ n ≤ 3
    · obtain ⟨m, rfl⟩ := Int.eq_ofNat_of_zero_le h.1
      rw [spec_TurnDie.j0, decide_eq_true h, if_neg (by decide), Bool.true_and, if_pos rfl, Int.toNat_natCast]
      exact spec_turns m (by omega) 7 d (by omega)
    · rw [spec_TurnDie.j0, decide_eq_false h, if_pos (by rfl)]
      rfl
def trS (s : ByteArray) : ByteArray := if goodWord s = true then ⟨(s.data.toList.map (turnByte 1)).toArray⟩ else ⟨#[]⟩
theorem turnRolls (s : ByteArray) (hs : s.size ≤ 1048576) (w : World) : Calls Tryd.prog 12 #[.string s] w fun e w' => e = .returned (.tuple #[.string (trS s), .bool (goodWord s)]) ∧ Below w.heap.size w w' := by
  refine impl_TurnRolls.calls s _ _ w ?_
  unfold impl_TurnRolls.f trS
  rw [isRolls_eq s hs, Option.bind_some]
  cases hg : goodWord s with
  | false => rfl
  | true =>
    obtain ⟨h60, hw⟩ := good_small hg
    rw [if_pos rfl, if_pos rfl]
    unfold impl_turned.f Go.Proofs.YtfcifidjjbknaaaDoor.Turned.says
    rw [if_pos ⟨.inl rfl, by omega, hw⟩]
    rfl
abbrev mv := Dice.mv
def W (L : Bfs.Nodes Die) : List ByteArray := L.map fun x => text x.2
theorem W_length (L : Bfs.Nodes Die) : (W L).length = L.length := by simp [W]
theorem W_at (L : Bfs.Nodes Die) (j : Nat) (x : Die × List Nat) (h : L[j]? = some x) : rdOf ByteArray.empty (W L) j = text x.2 := by
  simp [rdOf, W, h]
theorem beqDie (x y : Die) : (x.t == y.t && (x.n == y.n && (x.e == y.e && (x.s == y.s && (x.w == y.w && (x.b == y.b)))))) = decide (x = y) := by
  obtain ⟨x0, x1, x2, x3, x4, x5⟩ := x
  obtain ⟨y0, y1, y2, y3, y4, y5⟩ := y
  rw [Bool.eq_iff_iff]
  simp
def ans (o : Option (List Nat)) : ByteArray × Bool :=
  match o with
  | some w => (text w, true)
  | none => (⟨#[]⟩, false)
theorem table_words : ∀ x ∈ Dice.table, x.2.length ≤ 24 ∧ ∀ k ∈ x.2, k < 4 := by decide +kernel
theorem sl0_ev (T : Bfs.Nodes Die) (h24 : T.length ≤ 24) (hT : ∀ x ∈ T, x.2.length ≤ 24 ∧ ∀ k ∈ x.2, k < 4) (d e : Die) : ∀ (n j : Nat), j + n = T.length →
    Ev (fun q => impl_shortest.l0 q (W T) (W T).length j d.t d.n d.e d.s d.w d.b e.t e.n e.e e.s e.w e.b) (ans (((T.drop j).find? fun x => decide (rolled d x.2 = e)).map (·.2))) := by
  intro n
  induction n with
  | zero =>
    intro j hj
    rw [List.drop_eq_nil_of_le (by omega)]
    refine Ev.step (fun q => ?_) (Ev.now _)
    rw [impl_shortest.l0, if_neg (by rw [W_length]; omega)]
    rfl
  | succ n ih =>
    intro j hj
    have hlt : j < T.length := by omega
    have hy : T[j]? = some T[j] := List.getElem?_eq_getElem hlt
    obtain ⟨hwl, hw4⟩ := hT _ (List.getElem_mem hlt)
    have hro := rolled_ev (text T[j].2) (by rw [text_size]; omega) d
    rw [dirs_text _ hw4] at hro
    rw [List.drop_eq_getElem_cons hlt, List.find?_cons]
    have head : ∀ q, impl_shortest.l0 (q + 1) (W T) (W T).length j d.t d.n d.e d.s d.w d.b e.t e.n e.e e.s e.w e.b =
        (impl_Die_rolled.f q d.t d.n d.e d.s d.w d.b (text T[j].2)).bind fun b => if (b.1 == e.t && (b.2.1 == e.n && (b.2.2.1 == e.e && (b.2.2.2.1 == e.s && (b.2.2.2.2.1 == e.w && (b.2.2.2.2.2 == e.b)))))) = true then some (text T[j].2, true)
          else impl_shortest.l0 q (W T) (W T).length ((j + 1 : Nat) : Int) d.t d.n d.e d.s d.w d.b e.t e.n e.e e.s e.w e.b := fun q => by
      rw [impl_shortest.l0, if_pos (by rw [W_length]; omega), if_pos (by omega), if_pos (by rw [W_length]; omega), W_at _ j _ hy, succ_wrap (by omega)]
    cases hd : decide (rolled d T[j].2 = e) with
    | true =>
      refine Ev.step head (Ev.bind hro ?_)
      refine Ev.congr (fun q => ?_) (Ev.now _)
      simp only [tup]
      rw [if_pos ((beqDie _ _).trans hd)]
      rfl
    | false =>
      refine Ev.step head (Ev.bind hro ?_)
      refine Ev.congr (fun q => ?_) (ih (j + 1) (by omega))
      simp only [tup]
      rw [if_neg (by rw [beqDie, hd]; decide)]

theorem shortest_ev (d e : Die) : Ev (fun q => impl_shortest.f q d.t d.n d.e d.s d.w d.b e.t e.n e.e e.s e.w e.b) (ans (Dice.wordTo d e)) := by
  have h := sl0_ev Dice.table (by rw [Dice.table_length]; omega) table_words d e Dice.table.length 0 (by omega)
  rw [List.drop_zero] at h
  have hw : ShortWords.words = W Dice.table := rfl
  rw [← Dice.short_eq]
  unfold impl_shortest.f impl_shortWords.f Dice.short
  rw [hw]
  generalize Dice.table = T at h ⊢
  exact h
def itB (d e : Die) : Bool := gd d && gd e
theorem isTurned (d e : Die) (w : World) : Calls Tryd.prog 17 #[.agg (sx d), .agg (sx e)] w fun v w' => v = .returned (.tuple #[.bool (itB d e && (Dice.wordTo d e).isSome), .bool (itB d e)]) ∧ Below w.heap.size w w' := by
  obtain ⟨k, hk⟩ := shortest_ev d e
  have h := hk k (Nat.le_refl k)
  simp only at h
  refine impl_IsTurned.calls k d.t d.n d.e d.s d.w d.b e.t e.n e.e e.s e.w e.b _ _ w ?_
  unfold impl_IsTurned.f itB gd
  simp only [impl_IsDie.f, Option.bind_some]
  cases good d.t d.n d.e d.s d.w d.b with
  | false => rfl
  | true =>
    cases good e.t e.n e.e e.s e.w e.b with
    | false => rfl
    | true =>
      rw [if_pos rfl, if_pos rfl, h]
      cases Dice.wordTo d e <;> rfl
end Go.Proofs.YtfcifidjjbknaaaDoor.RollC
