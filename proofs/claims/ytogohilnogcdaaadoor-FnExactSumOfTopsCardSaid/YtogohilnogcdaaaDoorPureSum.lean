/- The plain law on SumOfTops. Conditions: none but that a text has at most 2^47 bytes. -/
import Derived.Test.YtogohilnogcdaaaDoorQCSumOfTopsx
import Derived.Test.YtogohilnogcdaaaDoorBase
namespace Go.Proofs.YtogohilnogcdaaaDoor.PureSum
open Go.RowKit Go.Proofs.YtogohilnogcdaaaDoor.QCSumOfTops Go.Proofs.YtogohilnogcdaaaDoorW.PrintWords Go.Proofs.YtogohilnogcdaaaDoorW.PrintLast Go.Proofs.YtogohilnogcdaaaDoor.Board Go.Proofs.YtogohilnogcdaaaDoor.IsDie Go.Proofs.YtogohilnogcdaaaDoor.Base
open Go.Proofs.YtogohilnogcdaaaDoor.Dice (Die roll)
open Go.Proofs.YtogohilnogcdaaaDoor.Dirs (dirOf tup dirs dirs_length)
open Go.Proofs.YtogohilnogcdaaaDoor.Words (letters dirOf_lt isW isW_at dirs_at goodWord good_small)
set_option linter.unusedVariables false
set_option linter.unusedSimpArgs false

abbrev sSt (t : Reach.St) : S31 := ⟨t.x, t.y, ⟨t.d.t, t.d.n, t.d.e, t.d.s, t.d.w, t.d.b⟩⟩
theorem along_spec (s word : ByteArray) (hi : IsB okB s.data.toList) (hg : goodWord word = true) : ∀ (n i k : Nat) (t : Reach.St) (pre : List Reach.St), i + n = word.size → n + 10 < k → inBoard t → pre.length = i →
    spec_boAlong.l0 k word ((pre ++ [t]).map sSt) i (wide s.data.toList) (high s.data.toList) (ints (cells s.data.toList)) t.x t.y t.d.t t.d.n t.d.e t.d.s t.d.w t.d.b = some ((pre ++ path s.data.toList t ((dirs word).drop i)).map sSt) := by
  obtain ⟨h60, hw⟩ := good_small hg
  intro n
  induction n with
  | zero =>
    intro i k t pre hin hk ht hp
    obtain ⟨k, rfl⟩ : ∃ m, k = m + 1 := ⟨k - 1, by omega⟩
    rw [spec_boAlong.l0, if_neg (by omega), List.drop_eq_nil_of_le (by rw [dirs_length]; omega), path]
  | succ n ih =>
    intro i k t pre hin hk ht hp
    obtain ⟨k, rfl⟩ : ∃ m, k = m + 1 := ⟨k - 1, by omega⟩
    have hl : i < word.data.toList.length := by show i < word.size; omega
    rw [spec_boAlong.l0, if_pos (by omega), if_pos (by omega), wrap_up (n := word.size) (by omega) (by omega), if_pos (by omega), if_pos (by omega), Int.toNat_natCast, Int.toNat_natCast]
    simp only [spec_diDir.f, spec_boRoll.f]
    rw [diDir_ch word i hl k (by omega), Option.bind_some, if_pos (isW_at hw i hl), boRoll_eq _ hi t ht.1 ht.2 _ (dirOf_lt _), Option.bind_some, dirs_at word i hl, path]
    by_cases hc : canB s.data.toList t (dirOf word.data.toList[i].toNat) = true
    · rw [if_pos hc, if_pos hc, if_pos rfl, if_pos (by simp; omega)]
      have hm := ih (i + 1) k (moved t (dirOf word.data.toList[i].toNat)) (pre ++ [t]) (by omega) (by omega) (can_in hi hc) (by simp; omega)
      simp only [List.map_append, List.map_cons, List.map_nil, List.append_assoc, List.cons_append, List.nil_append] at hm ⊢
      exact hm
    · rw [if_neg hc, if_neg hc, if_neg (by simp)]
theorem along_impl (s word : ByteArray) (hi : IsB okB s.data.toList) (hg : goodWord word = true) : ∀ (n i k : Nat) (t : Reach.St) (pre : List Reach.St), i + n = word.size → n + 10 < k → inBoard t → pre.length = i →
    impl_grid_along.l0 k (gridOf s) word ((pre ++ [t]).map sSt) word.size i = some ((pre ++ path s.data.toList t ((dirs word).drop i)).map sSt) := by
  obtain ⟨h60, hw⟩ := good_small hg
  intro n
  induction n with
  | zero =>
    intro i k t pre hin hk ht hp
    obtain ⟨k, rfl⟩ : ∃ m, k = m + 1 := ⟨k - 1, by omega⟩
    rw [impl_grid_along.l0, if_neg (by omega), List.drop_eq_nil_of_le (by rw [dirs_length]; omega), path]
  | succ n ih =>
    intro i k t pre hin hk ht hp
    obtain ⟨k, rfl⟩ : ∃ m, k = m + 1 := ⟨k - 1, by omega⟩
    have hl : i < word.data.toList.length := by show i < word.size; omega
    have hrd : rd_T31 ((pre ++ [t]).map sSt) (i : Int) = sSt t := by
      subst hp
      simp [rd_T31, List.getD]
    rw [impl_grid_along.l0, if_pos (by omega), if_pos (by omega), if_pos (by simp; omega), if_pos (by omega), hrd, Base.bt_at word i hl]
    simp only [impl_grid_roll.f]
    rw [gridRoll_eq s hi t ht.1 ht.2, Option.bind_some, dirs_at word i hl, path]
    by_cases hc : canB s.data.toList t (dirOf word.data.toList[i].toNat) = true
    · rw [if_pos (by simpa using hc), if_pos (by simp; omega), if_pos hc, Base.up (by omega)]
      have hm := ih (i + 1) k (moved t (dirOf word.data.toList[i].toNat)) (pre ++ [t]) (by omega) (by omega) (can_in hi hc) (by simp; omega)
      simp only [List.map_append, List.map_cons, List.map_nil, List.append_assoc, List.cons_append, List.nil_append] at hm ⊢
      exact hm
    · rw [if_neg (by simpa using hc), if_neg hc]
theorem spec_path (s word : ByteArray) (hi : IsB okB s.data.toList) (hg : goodWord word = true) (x y a0 a1 a2 a3 a4 a5 : Int) (hin : inBoard ⟨x, y, ⟨a0, a1, a2, a3, a4, a5⟩⟩) (k : Nat) (hk : word.size + 10 < k) :
    spec_boAlong.f k (wide s.data.toList) (high s.data.toList) (ints (cells s.data.toList)) x y a0 a1 a2 a3 a4 a5 word = some ((path s.data.toList ⟨x, y, ⟨a0, a1, a2, a3, a4, a5⟩⟩ (dirs word)).map sSt) :=
  along_spec s word hi hg word.size 0 k ⟨x, y, ⟨a0, a1, a2, a3, a4, a5⟩⟩ [] (by omega) (by omega) hin rfl
theorem impl_path (s word : ByteArray) (hi : IsB okB s.data.toList) (hg : goodWord word = true) (x y a0 a1 a2 a3 a4 a5 : Int) (hin : inBoard ⟨x, y, ⟨a0, a1, a2, a3, a4, a5⟩⟩) (k : Nat) (hk : word.size + 10 < k) :
    impl_grid_along.f k (gridOf s) x y a0 a1 a2 a3 a4 a5 word = some ((path s.data.toList ⟨x, y, ⟨a0, a1, a2, a3, a4, a5⟩⟩ (dirs word)).map sSt) :=
  along_impl s word hi hg word.size 0 k ⟨x, y, ⟨a0, a1, a2, a3, a4, a5⟩⟩ [] (by omega) (by omega) hin rfl

/-- The states along a word that can be rolled along. -/
def wayOf (s word : ByteArray) (x y a0 a1 a2 a3 a4 a5 : Int) : Option (List Reach.St) :=
  if (isB okB s.data.toList && stateB s.data.toList x y a0 a1 a2 a3 a4 a5) = true ∧ goodWord word = true ∧ (path s.data.toList ⟨x, y, ⟨a0, a1, a2, a3, a4, a5⟩⟩ (dirs word)).length = word.size + 1 then some (path s.data.toList ⟨x, y, ⟨a0, a1, a2, a3, a4, a5⟩⟩ (dirs word)) else none
theorem way_length {s word : ByteArray} {x y a0 a1 a2 a3 a4 a5 : Int} {L : List Reach.St} (h : wayOf s word x y a0 a1 a2 a3 a4 a5 = some L) : L.length = word.size + 1 ∧ L.length ≤ 61 := by
  unfold wayOf at h
  by_cases hc : (isB okB s.data.toList && stateB s.data.toList x y a0 a1 a2 a3 a4 a5) = true ∧ goodWord word = true ∧ (path s.data.toList ⟨x, y, ⟨a0, a1, a2, a3, a4, a5⟩⟩ (dirs word)).length = word.size + 1
  · rw [if_pos hc] at h
    obtain rfl := Option.some.inj h
    have := (good_small hc.2.1).1
    exact ⟨hc.2.2, by omega⟩
  · rw [if_neg hc] at h
    cases h
theorem spec_way (s word : ByteArray) (hw : word.size ≤ 1048576) (x y a0 a1 a2 a3 a4 a5 : Int) (k : Nat) (hk : 3 * s.size + word.size + 40 < k) :
    spec_boWay.f k s x y a0 a1 a2 a3 a4 a5 word = some (match wayOf s word x y a0 a1 a2 a3 a4 a5 with
      | some L => (L.map sSt, true)
      | none => ([], false)) := by
  obtain ⟨k, rfl⟩ : ∃ m, k = m + 1 := ⟨k - 1, by omega⟩
  unfold spec_boWay.f wayOf
  simp only [spec_boAsked.f, spec_diWord.f]
  rw [asked_at s _ _ _ _ _ _ _ _ _ (by omega), diWord_at word hw _ (by omega)]
  simp only [Option.bind_some]
  cases hc : isB okB s.data.toList with
  | false => simp [spec_boWay.j0]
  | true =>
    have hi := isB_iff.1 hc
    rw [if_pos rfl, Bool.true_and]
    simp only
    cases hst : stateB s.data.toList x y a0 a1 a2 a3 a4 a5 with
    | false => simp [spec_boWay.j0]
    | true =>
      cases hg : goodWord word with
      | false => simp [spec_boWay.j0]
      | true =>
        have hin : inBoard ⟨x, y, ⟨a0, a1, a2, a3, a4, a5⟩⟩ := state_in hi hst
        have h60 := (good_small hg).1
        have e : wrap64 ((word.size : Int) + 1) = ((word.size + 1 : Nat) : Int) := by unfold wrap64; omega
        rw [if_pos rfl, spec_boWay.j0, if_neg (by decide), spec_path s word hi hg _ _ _ _ _ _ _ _ hin _ (by omega), Option.bind_some, e, List.length_map]
        by_cases hl : (path s.data.toList ⟨x, y, ⟨a0, a1, a2, a3, a4, a5⟩⟩ (dirs word)).length = word.size + 1
        · rw [if_pos (by omega), if_pos ⟨rfl, rfl, hl⟩]
        · rw [if_neg (by omega), if_neg (fun h => hl h.2.2)]
theorem impl_way (s word : ByteArray) (hs : s.size ≤ 1048576) (hw : word.size ≤ 1048576) (x y a0 a1 a2 a3 a4 a5 : Int) (k : Nat) (hk : 3 * s.size + word.size + 40 < k) :
    ∃ g, impl_statesAlong.f k s x y a0 a1 a2 a3 a4 a5 word = some (g, (wayOf s word x y a0 a1 a2 a3 a4 a5).isSome) ∧ ∀ L, wayOf s word x y a0 a1 a2 a3 a4 a5 = some L → g = L.map sSt := by
  obtain ⟨g, h1, h2⟩ := onBoard_at s hs x y a0 a1 a2 a3 a4 a5 k (by omega)
  unfold impl_statesAlong.f wayOf
  simp only [impl_onBoard.f, impl_IsRolls.f]
  rw [h1, isRolls_eq word hw]
  simp only [Option.bind_some]
  cases hc : isB okB s.data.toList with
  | false => exact ⟨[], by simp, fun L h => by simp at h⟩
  | true =>
    obtain rfl := h2 hc
    have hi := isB_iff.1 hc
    rw [Bool.true_and]
    cases hst : stateB s.data.toList x y a0 a1 a2 a3 a4 a5 with
    | false => exact ⟨[], by simp, fun L h => by simp at h⟩
    | true =>
      cases hg : goodWord word with
      | false => exact ⟨[], by simp, fun L h => by simp at h⟩
      | true =>
        have hin : inBoard ⟨x, y, ⟨a0, a1, a2, a3, a4, a5⟩⟩ := state_in hi hst
        have h60 := (good_small hg).1
        have e : wrap64 ((word.size : Int) + 1) = ((word.size + 1 : Nat) : Int) := by unfold wrap64; omega
        rw [if_pos rfl, if_pos rfl, impl_path s word hi hg _ _ _ _ _ _ _ _ hin _ (by omega), Option.bind_some, e, List.length_map]
        by_cases hl : (path s.data.toList ⟨x, y, ⟨a0, a1, a2, a3, a4, a5⟩⟩ (dirs word)).length = word.size + 1
        · refine ⟨(path s.data.toList ⟨x, y, ⟨a0, a1, a2, a3, a4, a5⟩⟩ (dirs word)).map sSt, ?_, fun L h => ?_⟩
          · rw [if_pos ⟨rfl, rfl, hl⟩, hl]
            simp
          · rw [if_pos ⟨rfl, rfl, hl⟩] at h
            rw [Option.some.inj h]
        · refine ⟨(path s.data.toList ⟨x, y, ⟨a0, a1, a2, a3, a4, a5⟩⟩ (dirs word)).map sSt, ?_, fun L h => ?_⟩
          · rw [if_neg (fun h => hl h.2.2)]
            have hb : (((path s.data.toList ⟨x, y, ⟨a0, a1, a2, a3, a4, a5⟩⟩ (dirs word)).length : Int) == ((word.size + 1 : Nat) : Int)) = false := by
              rw [beq_eq_false_iff_ne]
              omega
            rw [hb]
            rfl
          · rw [if_neg (fun h => hl h.2.2)] at h
            cases h
theorem rd_way (L : List Reach.St) (i : Nat) (h : i < L.length) : rd_T31 (L.map sSt) (i : Int) = sSt L[i] := by
  simp [rd_T31, List.getD, h]

def sumW (a : Int) : List Int → Int
  | [] => a
  | t :: l => sumW (wrap64 (a + t)) l
theorem spec_l0 (L : List Reach.St) (hL : L.length ≤ 61) : ∀ (n i k : Nat) (a : Int), i + n = L.length → n < k →
    spec_SumOfTops.l0 k a (L.map sSt) ((L.map sSt).length : Int) i = some (sumW a ((L.drop i).map (·.d.t)), true) := by
  have hlen : ((L.map sSt).length : Int) = (L.length : Int) := by simp
  intro n
  induction n with
  | zero =>
    intro i k a hi hk
    obtain ⟨k, rfl⟩ : ∃ m, k = m + 1 := ⟨k - 1, by omega⟩
    rw [spec_SumOfTops.l0, hlen, if_neg (by omega), List.drop_eq_nil_of_le (by omega)]
    rfl
  | succ n ih =>
    intro i k a hi hk
    obtain ⟨k, rfl⟩ : ∃ m, k = m + 1 := ⟨k - 1, by omega⟩
    have hl : i < L.length := by omega
    rw [spec_SumOfTops.l0, hlen, if_pos (by omega), if_pos (by omega), if_pos (by omega), rd_way L i hl, List.drop_eq_getElem_cons hl, Base.up (by omega), ← hlen, ih (i + 1) k _ (by omega) (by omega)]
    rfl
theorem tops_l0 (L : List Reach.St) (hL : L.length ≤ 61) : ∀ (n i k : Nat) (a : List Int), i + n = L.length → n < k → a.length ≤ i →
    impl_TopsAlong.l0 k a (L.map sSt) ((L.map sSt).length : Int) i = some (a ++ (L.drop i).map (·.d.t), true) := by
  have hlen : ((L.map sSt).length : Int) = (L.length : Int) := by simp
  intro n
  induction n with
  | zero =>
    intro i k a hi hk ha
    obtain ⟨k, rfl⟩ : ∃ m, k = m + 1 := ⟨k - 1, by omega⟩
    rw [impl_TopsAlong.l0, hlen, if_neg (by omega), List.drop_eq_nil_of_le (by omega)]
    simp
  | succ n ih =>
    intro i k a hi hk ha
    obtain ⟨k, rfl⟩ : ∃ m, k = m + 1 := ⟨k - 1, by omega⟩
    have hl : i < L.length := by omega
    rw [impl_TopsAlong.l0, hlen, if_pos (by omega), if_pos (by omega), if_pos (by omega), if_pos (by omega), rd_way L i hl, List.drop_eq_getElem_cons hl, Base.up (by omega), ← hlen, ih (i + 1) k _ (by omega) (by omega) (by simp; omega), List.map_cons]
    simp only [List.append_assoc, List.cons_append, List.nil_append]
theorem sum_l0 (b : Bool) (L : List Int) (hL : L.length ≤ 61) : ∀ (n i k : Nat) (a : Int), i + n = L.length → n < k →
    impl_SumOfTops.l0 k b a L (L.length : Int) i = some (sumW a (L.drop i), b) := by
  intro n
  induction n with
  | zero =>
    intro i k a hi hk
    obtain ⟨k, rfl⟩ : ∃ m, k = m + 1 := ⟨k - 1, by omega⟩
    rw [impl_SumOfTops.l0, if_neg (by omega), List.drop_eq_nil_of_le (by omega)]
    rfl
  | succ n ih =>
    intro i k a hi hk
    obtain ⟨k, rfl⟩ : ∃ m, k = m + 1 := ⟨k - 1, by omega⟩
    have hl : i < L.length := by omega
    have hr : rd L (i : Int) = L[i] := by simp [rd, List.getD, hl]
    rw [impl_SumOfTops.l0, if_pos (by omega), if_pos (by omega), if_pos (by omega), hr, List.drop_eq_getElem_cons hl, Base.up (by omega), ih (i + 1) k _ (by omega) (by omega)]
    rfl

theorem sumOfTops (s : ByteArray) (x y a0 a1 a2 a3 a4 a5 : Int) (t : ByteArray) : ∃ k, laws_FnExactSumOfTops.f k s x y a0 a1 a2 a3 a4 a5 t = some true := by
  refine ⟨3 * s.size + t.size + 200, ?_⟩
  unfold laws_FnExactSumOfTops.f
  by_cases h : (s.size : Int) > 1048576
  · rw [if_pos h]
  by_cases h' : (t.size : Int) > 1048576
  · rw [if_neg h, if_pos h']
  · obtain ⟨g, h1, h2⟩ := impl_way s t (by omega) (by omega) x y a0 a1 a2 a3 a4 a5 (3 * s.size + t.size + 200) (by omega)
    rw [if_neg h, if_neg h', laws_toState.f, laws_toDie.f]
    simp only [Option.bind_some]
    rw [spec_SumOfTops.f, impl_SumOfTops.f, impl_TopsAlong.f, spec_way s t (by omega) _ _ _ _ _ _ _ _ _ (by omega), h1]
    simp only [Option.bind_some]
    cases hw : wayOf s t x y a0 a1 a2 a3 a4 a5 with
    | none =>
      have q := sum_l0 false [] (by simp) 0 0 (3 * s.size + t.size + 200) 0 rfl (by omega)
      simp only [Option.isSome_none, Bool.false_eq_true, if_false, Option.bind_some]
      rw [show impl_SumOfTops.l0 (3 * s.size + t.size + 200) false 0 [] (([] : List Int).length : Int) 0 = _ from q]
      simp [sumW]
    | some L =>
      obtain ⟨hl1, hl2⟩ := way_length hw
      obtain rfl := h2 L hw
      have q1 := spec_l0 L hl2 L.length 0 (3 * s.size + t.size + 200) 0 (by omega) (by omega)
      have q2 := tops_l0 L hl2 L.length 0 (3 * s.size + t.size + 200) [] (by omega) (by omega) (by simp)
      have q3 := sum_l0 true (L.map (·.d.t)) (by simpa using hl2) (L.map (·.d.t)).length 0 (3 * s.size + t.size + 200) 0 (by omega) (by simp; omega)
      rw [List.drop_zero] at q1 q2 q3
      rw [List.nil_append] at q2
      simp only [Option.isSome_some, if_true]
      rw [show spec_SumOfTops.l0 (3 * s.size + t.size + 200) 0 (L.map sSt) ((L.map sSt).length : Int) 0 = _ from q1, show impl_TopsAlong.l0 (3 * s.size + t.size + 200) [] (L.map sSt) ((L.map sSt).length : Int) 0 = _ from q2]
      simp only [Option.bind_some]
      rw [show impl_SumOfTops.l0 (3 * s.size + t.size + 200) true 0 (L.map (·.d.t)) ((L.map (·.d.t)).length : Int) 0 = _ from q3]
      simp
end Go.Proofs.YtogohilnogcdaaaDoor.PureSum
