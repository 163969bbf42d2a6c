/- The plain law on StatesAlong. Conditions: none but that a text has at most 2^47 bytes. -/
import Derived.Test.YtogohilnogcdaaaDoorQCStatesAlongx
import Derived.Test.YtogohilnogcdaaaDoorBase
namespace Go.Proofs.YtogohilnogcdaaaDoor.PureSA
open Go.RowKit Go.Proofs.YtogohilnogcdaaaDoor.QCStatesAlong Go.Proofs.YtogohilnogcdaaaDoorW.PrintWords Go.Proofs.YtogohilnogcdaaaDoorW.PrintLast Go.Proofs.YtogohilnogcdaaaDoor.Board Go.Proofs.YtogohilnogcdaaaDoor.IsDie Go.Proofs.YtogohilnogcdaaaDoor.Base
open Go.Proofs.YtogohilnogcdaaaDoor.Dice (Die roll)
open Go.Proofs.YtogohilnogcdaaaDoor.Dirs (dirOf tup dirs dirs_length)
open Go.Proofs.YtogohilnogcdaaaDoor.Words (letters dirOf_lt isW isW_at dirs_at goodWord good_small)
set_option linter.unusedVariables false
set_option linter.unusedSimpArgs false

abbrev sSt (t : Reach.St) : S31 := ⟨t.x, t.y, ⟨t.d.t, t.d.n, t.d.e, t.d.s, t.d.w, t.d.b⟩⟩
theorem along_spec (s word : ByteArray) (hi : IsB okB s.data.toList) (hg : goodWord word = true) : ∀ (n i k : Nat) (t : Reach.St) (pre : List Reach.St), i + n = word.size → n + 10 < k → inBoard t → pre.length = i →
    spec_boAlong.l0 k word ((pre ++ [t]).map sSt) i (wide s.data.toList) (high s.data.toList) (ints (cells s.data.toList)) t.x t.y t.d.t t.d.n t.d.e t.d.s t.d.w t.d.b = some ((pre ++ path s.data.toList t ((dirs word).drop i)).map sSt) := by
  obtain ⟨h60, hw⟩ := good_small hg
  intro n
  induction n with
  | zero =>
    intro i k t pre hin hk ht hp
    obtain ⟨k, rfl⟩ : ∃ m, k = m + 1 := ⟨k - 1, by omega⟩
    rw [spec_boAlong.l0, if_neg (by omega), List.drop_eq_nil_of_le (by rw [dirs_length]; omega), path]
  | succ n ih =>
    intro i k t pre hin hk ht hp
    obtain ⟨k, rfl⟩ : ∃ m, k = m + 1 := ⟨k - 1, by omega⟩
    have hl : i < word.data.toList.length := by show i < word.size; omega
    rw [spec_boAlong.l0, if_pos (by omega), if_pos (by omega), wrap_up (n := word.size) (by omega) (by omega), if_pos (by omega), if_pos (by omega), Int.toNat_natCast, Int.toNat_natCast]
    simp only [spec_diDir.f, spec_boRoll.f]
    rw [diDir_ch word i hl k (by omega), Option.bind_some, if_pos (isW_at hw i hl), boRoll_eq _ hi t ht.1 ht.2 _ (dirOf_lt _), Option.bind_some, dirs_at word i hl, path]
    by_cases hc : canB s.data.toList t (dirOf word.data.toList[i].toNat) = true
    · rw [if_pos hc, if_pos hc, if_pos rfl, if_pos (by simp; omega)]
      have hm := ih (i + 1) k (moved t (dirOf word.data.toList[i].toNat)) (pre ++ [t]) (by omega) (by omega) (can_in hi hc) (by simp; omega)
      simp only [List.map_append, List.map_cons, List.map_nil, List.append_assoc, List.cons_append, List.nil_append] at hm ⊢
      exact hm
    · rw [if_neg hc, if_neg hc, if_neg (by simp)]
theorem along_impl (s word : ByteArray) (hi : IsB okB s.data.toList) (hg : goodWord word = true) : ∀ (n i k : Nat) (t : Reach.St) (pre : List Reach.St), i + n = word.size → n + 10 < k → inBoard t → pre.length = i →
    impl_grid_along.l0 k (gridOf s) word ((pre ++ [t]).map sSt) word.size i = some ((pre ++ path s.data.toList t ((dirs word).drop i)).map sSt) := by
  obtain ⟨h60, hw⟩ := good_small hg
  intro n
  induction n with
  | zero =>
    intro i k t pre hin hk ht hp
    obtain ⟨k, rfl⟩ : ∃ m, k = m + 1 := ⟨k - 1, by omega⟩
    rw [impl_grid_along.l0, if_neg (by omega), List.drop_eq_nil_of_le (by rw [dirs_length]; omega), path]
  | succ n ih =>
    intro i k t pre hin hk ht hp
    obtain ⟨k, rfl⟩ : ∃ m, k = m + 1 := ⟨k - 1, by omega⟩
    have hl : i < word.data.toList.length := by show i < word.size; omega
    have hrd : rd_T31 ((pre ++ [t]).map sSt) (i : Int) = sSt t := by
      subst hp
      simp [rd_T31, List.getD]
    rw [impl_grid_along.l0, if_pos (by omega), if_pos (by omega), if_pos (by simp; omega), if_pos (by omega), hrd, Base.bt_at word i hl]
    simp only [impl_grid_roll.f]
    rw [gridRoll_eq s hi t ht.1 ht.2, Option.bind_some, dirs_at word i hl, path]
    by_cases hc : canB s.data.toList t (dirOf word.data.toList[i].toNat) = true
    · rw [if_pos (by simpa using hc), if_pos (by simp; omega), if_pos hc, Base.up (by omega)]
      have hm := ih (i + 1) k (moved t (dirOf word.data.toList[i].toNat)) (pre ++ [t]) (by omega) (by omega) (can_in hi hc) (by simp; omega)
      simp only [List.map_append, List.map_cons, List.map_nil, List.append_assoc, List.cons_append, List.nil_append] at hm ⊢
      exact hm
    · rw [if_neg (by simpa using hc), if_neg hc]
theorem spec_path (s word : ByteArray) (hi : IsB okB s.data.toList) (hg : goodWord word = true) (x y a0 a1 a2 a3 a4 a5 : Int) (hin : inBoard ⟨x, y, ⟨a0, a1, a2, a3, a4, a5⟩⟩) (k : Nat) (hk : word.size + 10 < k) :
    spec_boAlong.f k (wide s.data.toList) (high s.data.toList) (ints (cells s.data.toList)) x y a0 a1 a2 a3 a4 a5 word = some ((path s.data.toList ⟨x, y, ⟨a0, a1, a2, a3, a4, a5⟩⟩ (dirs word)).map sSt) :=
  along_spec s word hi hg word.size 0 k ⟨x, y, ⟨a0, a1, a2, a3, a4, a5⟩⟩ [] (by omega) (by omega) hin rfl
theorem impl_path (s word : ByteArray) (hi : IsB okB s.data.toList) (hg : goodWord word = true) (x y a0 a1 a2 a3 a4 a5 : Int) (hin : inBoard ⟨x, y, ⟨a0, a1, a2, a3, a4, a5⟩⟩) (k : Nat) (hk : word.size + 10 < k) :
    impl_grid_along.f k (gridOf s) x y a0 a1 a2 a3 a4 a5 word = some ((path s.data.toList ⟨x, y, ⟨a0, a1, a2, a3, a4, a5⟩⟩ (dirs word)).map sSt) :=
  along_impl s word hi hg word.size 0 k ⟨x, y, ⟨a0, a1, a2, a3, a4, a5⟩⟩ [] (by omega) (by omega) hin rfl

/-- The states along a word that can be rolled along. -/
def wayOf (s word : ByteArray) (x y a0 a1 a2 a3 a4 a5 : Int) : Option (List Reach.St) :=
  if (isB okB s.data.toList && stateB s.data.toList x y a0 a1 a2 a3 a4 a5) = true ∧ goodWord word = true ∧ (path s.data.toList ⟨x, y, ⟨a0, a1, a2, a3, a4, a5⟩⟩ (dirs word)).length = word.size + 1 then some (path s.data.toList ⟨x, y, ⟨a0, a1, a2, a3, a4, a5⟩⟩ (dirs word)) else none
theorem way_length {s word : ByteArray} {x y a0 a1 a2 a3 a4 a5 : Int} {L : List Reach.St} (h : wayOf s word x y a0 a1 a2 a3 a4 a5 = some L) : L.length = word.size + 1 ∧ L.length ≤ 61 := by
  unfold wayOf at h
  by_cases hc : (isB okB s.data.toList && stateB s.data.toList x y a0 a1 a2 a3 a4 a5) = true ∧ goodWord word = true ∧ (path s.data.toList ⟨x, y, ⟨a0, a1, a2, a3, a4, a5⟩⟩ (dirs word)).length = word.size + 1
  · rw [if_pos hc] at h
    obtain rfl := Option.some.inj h
    have := (good_small hc.2.1).1
    exact ⟨hc.2.2, by omega⟩
  · rw [if_neg hc] at h
    cases h
theorem spec_way (s word : ByteArray) (hw : word.size ≤ 1048576) (x y a0 a1 a2 a3 a4 a5 : Int) (k : Nat) (hk : 3 * s.size + word.size + 40 < k) :
    spec_boWay.f k s x y a0 a1 a2 a3 a4 a5 word = some (match wayOf s word x y a0 a1 a2 a3 a4 a5 with
      | some L => (L.map sSt, true)
      | none => ([], false)) := by
  obtain ⟨k, rfl⟩ : ∃ m, k = m + 1 := ⟨k - 1, by omega⟩
  unfold spec_boWay.f wayOf
  simp only [spec_boAsked.f, spec_diWord.f]
  rw [asked_at s _ _ _ _ _ _ _ _ _ (by omega), diWord_at word hw _ (by omega)]
  simp only [Option.bind_some]
  cases hc : isB okB s.data.toList with
  | false => simp [spec_boWay.j0]
  | true =>
    have hi := isB_iff.1 hc
    rw [if_pos rfl, Bool.true_and]
    simp only
    cases hst : stateB s.data.toList x y a0 a1 a2 a3 a4 a5 with
    | false => simp [spec_boWay.j0]
    | true =>
      cases hg : goodWord word with
      | false => simp [spec_boWay.j0]
      | true =>
        have hin : inBoard ⟨x, y, ⟨a0, a1, a2, a3, a4, a5⟩⟩ := state_in hi hst
        have h60 := (good_small hg).1
        have e : wrap64 ((word.size : Int) + 1) = ((word.size + 1 : Nat) : Int) := by unfold wrap64; omega
        rw [if_pos rfl, spec_boWay.j0, if_neg (by decide), spec_path s word hi hg _ _ _ _ _ _ _ _ hin _ (by omega), Option.bind_some, e, List.length_map]
        by_cases hl : (path s.data.toList ⟨x, y, ⟨a0, a1, a2, a3, a4, a5⟩⟩ (dirs word)).length = word.size + 1
        · rw [if_pos (by omega), if_pos ⟨rfl, rfl, hl⟩]
        · rw [if_neg (by omega), if_neg (fun h => hl h.2.2)]
theorem impl_way (s word : ByteArray) (hs : s.size ≤ 1048576) (hw : word.size ≤ 1048576) (x y a0 a1 a2 a3 a4 a5 : Int) (k : Nat) (hk : 3 * s.size + word.size + 40 < k) :
    ∃ g, impl_statesAlong.f k s x y a0 a1 a2 a3 a4 a5 word = some (g, (wayOf s word x y a0 a1 a2 a3 a4 a5).isSome) ∧ ∀ L, wayOf s word x y a0 a1 a2 a3 a4 a5 = some L → g = L.map sSt := by
  obtain ⟨g, h1, h2⟩ := onBoard_at s hs x y a0 a1 a2 a3 a4 a5 k (by omega)
  unfold impl_statesAlong.f wayOf
  simp only [impl_onBoard.f, impl_IsRolls.f]
  rw [h1, isRolls_eq word hw]
  simp only [Option.bind_some]
  cases hc : isB okB s.data.toList with
  | false => exact ⟨[], by simp, fun L h => by simp at h⟩
  | true =>
    obtain rfl := h2 hc
    have hi := isB_iff.1 hc
    rw [Bool.true_and]
    cases hst : stateB s.data.toList x y a0 a1 a2 a3 a4 a5 with
    | false => exact ⟨[], by simp, fun L h => by simp at h⟩
    | true =>
      cases hg : goodWord word with
      | false => exact ⟨[], by simp, fun L h => by simp at h⟩
      | true =>
        have hin : inBoard ⟨x, y, ⟨a0, a1, a2, a3, a4, a5⟩⟩ := state_in hi hst
        have h60 := (good_small hg).1
        have e : wrap64 ((word.size : Int) + 1) = ((word.size + 1 : Nat) : Int) := by unfold wrap64; omega
        rw [if_pos rfl, if_pos rfl, impl_path s word hi hg _ _ _ _ _ _ _ _ hin _ (by omega), Option.bind_some, e, List.length_map]
        by_cases hl : (path s.data.toList ⟨x, y, ⟨a0, a1, a2, a3, a4, a5⟩⟩ (dirs word)).length = word.size + 1
        · refine ⟨(path s.data.toList ⟨x, y, ⟨a0, a1, a2, a3, a4, a5⟩⟩ (dirs word)).map sSt, ?_, fun L h => ?_⟩
          · rw [if_pos ⟨rfl, rfl, hl⟩, hl]
            simp
          · rw [if_pos ⟨rfl, rfl, hl⟩] at h
            rw [Option.some.inj h]
        · refine ⟨(path s.data.toList ⟨x, y, ⟨a0, a1, a2, a3, a4, a5⟩⟩ (dirs word)).map sSt, ?_, fun L h => ?_⟩
          · rw [if_neg (fun h => hl h.2.2)]
            have hb : (((path s.data.toList ⟨x, y, ⟨a0, a1, a2, a3, a4, a5⟩⟩ (dirs word)).length : Int) == ((word.size + 1 : Nat) : Int)) = false := by
              rw [beq_eq_false_iff_ne]
              omega
            rw [hb]
            rfl
          · rw [if_neg (fun h => hl h.2.2)] at h
            cases h
theorem rd_way (L : List Reach.St) (i : Nat) (h : i < L.length) : rd_T31 (L.map sSt) (i : Int) = sSt L[i] := by
  simp [rd_T31, List.getD, h]

theorem eqSelf (a b c d e f : Int) : laws_eqDie.f a b c d e f a b c d e f = some true := by
  simp [laws_eqDie.f]

theorem eqState_self (x y a b c d e f : Int) : laws_eqState.f x y a b c d e f x y a b c d e f = some true := by
  unfold laws_eqState.f
  rw [if_pos rfl, if_pos rfl, eqSelf]
  rfl

/-! ### Lists of states: compared, marked, asked -/
theorem eqStates (L : List S31) (hl : L.length ≤ 1000) : ∀ (n i k : Nat), i + n = L.length → n < k → laws_eqStateS.l0 k L L i = some true := by
  intro n
  induction n with
  | zero =>
    intro i k hi hk
    obtain ⟨k, rfl⟩ : ∃ m, k = m + 1 := ⟨k - 1, by omega⟩
    rw [laws_eqStateS.l0, if_neg (by omega)]
  | succ n ih =>
    intro i k hi hk
    obtain ⟨k, rfl⟩ : ∃ m, k = m + 1 := ⟨k - 1, by omega⟩
    rw [laws_eqStateS.l0, if_pos (by omega), if_pos (by omega), if_pos (by omega), eqState_self, Option.bind_some, if_pos rfl, Base.up (by omega)]
    exact ih (i + 1) k (by omega) (by omega)
theorem eqStates_at (L : List S31) (hl : L.length ≤ 1000) (k : Nat) (hk : L.length < k) : laws_eqStateS.f k L L = some true := by
  rw [laws_eqStateS.f, if_pos rfl]
  exact eqStates L hl L.length 0 k (by omega) (by omega)
/-- What a marking leaves. -/
def elem (m : Nat) : S31 := ⟨(m : Int), ((m + 1 : Nat) : Int), ⟨((m + 2 : Nat) : Int), ((m + 3 : Nat) : Int), ((m + 4 : Nat) : Int), ((m + 5 : Nat) : Int), ((m + 6 : Nat) : Int), ((m + 7 : Nat) : Int)⟩⟩
theorem rd_set (l : List S31) (i : Nat) (h : i < l.length) (e : S31) : rd_T31 (l.set i e) (i : Int) = e := by
  simp [rd_T31, List.getD, h]
theorem mark_one (l : List S31) (i k m : Nat) (hi : i < l.length) (hl : l.length ≤ 1000) (hm : m ≤ 1000000) : laws_markStateS.l0 (k + 1) l m i = laws_markStateS.l0 k (l.set i (elem m)) ((m + 8 : Nat) : Int) ((i + 1 : Nat) : Int) := by
  have e1 : wrap64 ((m : Int) + 1) = ((m + 1 : Nat) : Int) := Base.up (by omega)
  have e2 : wrap64 (((m + 1 : Nat) : Int) + 1) = ((m + 2 : Nat) : Int) := Base.up (by omega)
  have e3 : wrap64 (((m + 2 : Nat) : Int) + 1) = ((m + 3 : Nat) : Int) := Base.up (by omega)
  have e4 : wrap64 (((m + 3 : Nat) : Int) + 1) = ((m + 4 : Nat) : Int) := Base.up (by omega)
  have e5 : wrap64 (((m + 4 : Nat) : Int) + 1) = ((m + 5 : Nat) : Int) := Base.up (by omega)
  have e6 : wrap64 (((m + 5 : Nat) : Int) + 1) = ((m + 6 : Nat) : Int) := Base.up (by omega)
  have e7 : wrap64 (((m + 6 : Nat) : Int) + 1) = ((m + 7 : Nat) : Int) := Base.up (by omega)
  have e8 : wrap64 (((m + 7 : Nat) : Int) + 1) = ((m + 8 : Nat) : Int) := Base.up (by omega)
  have r : ∀ e, rd_T31 (l.set i e) (i : Int) = e := rd_set l i hi
  rw [laws_markStateS.l0, if_pos (by omega), if_pos (by omega), e1, e2, e3, e4, e5, e6, e7, e8, Base.up (by omega)]
  simp only [Option.bind_some, Int.toNat_natCast, r, List.set_set]
  rfl
theorem held_one (l : List S31) (i k m : Nat) (hi : i < l.length) (hl : l.length ≤ 1000) (hm : m ≤ 1000000) (he : rd_T31 l (i : Int) = elem m) : laws_heldStateS.l0 (k + 1) l m i = laws_heldStateS.l0 k l ((m + 8 : Nat) : Int) ((i + 1 : Nat) : Int) := by
  have e1 : wrap64 ((m : Int) + 1) = ((m + 1 : Nat) : Int) := Base.up (by omega)
  have e2 : wrap64 (((m + 1 : Nat) : Int) + 1) = ((m + 2 : Nat) : Int) := Base.up (by omega)
  have e3 : wrap64 (((m + 2 : Nat) : Int) + 1) = ((m + 3 : Nat) : Int) := Base.up (by omega)
  have e4 : wrap64 (((m + 3 : Nat) : Int) + 1) = ((m + 4 : Nat) : Int) := Base.up (by omega)
  have e5 : wrap64 (((m + 4 : Nat) : Int) + 1) = ((m + 5 : Nat) : Int) := Base.up (by omega)
  have e6 : wrap64 (((m + 5 : Nat) : Int) + 1) = ((m + 6 : Nat) : Int) := Base.up (by omega)
  have e7 : wrap64 (((m + 6 : Nat) : Int) + 1) = ((m + 7 : Nat) : Int) := Base.up (by omega)
  have e8 : wrap64 (((m + 7 : Nat) : Int) + 1) = ((m + 8 : Nat) : Int) := Base.up (by omega)
  rw [laws_heldStateS.l0, if_pos (by omega), if_pos (by omega), e1, e2, e3, e4, e5, e6, e7, e8, he, if_pos (show (elem m).f0 = (m : Int) from rfl), if_pos (show (elem m).f1 = ((m + 1 : Nat) : Int) from rfl), if_pos (show (elem m).f2.f0 = ((m + 2 : Nat) : Int) from rfl), if_pos (show (elem m).f2.f1 = ((m + 3 : Nat) : Int) from rfl), if_pos (show (elem m).f2.f2 = ((m + 4 : Nat) : Int) from rfl), if_pos (show (elem m).f2.f3 = ((m + 5 : Nat) : Int) from rfl), if_pos (show (elem m).f2.f4 = ((m + 6 : Nat) : Int) from rfl), if_pos (show (elem m).f2.f5 = ((m + 7 : Nat) : Int) from rfl), Base.up (by omega)]
theorem markStates : ∀ (n i k m : Nat) (l : List S31), i + n = l.length → n < k → m + 8 * n ≤ 1000000 → l.length ≤ 1000 →
    ∃ l', laws_markStateS.l0 k l m i = some (((m + 8 * n : Nat) : Int), l') ∧ l'.length = l.length ∧ (∀ j, j < i → rd_T31 l' (j : Int) = rd_T31 l (j : Int)) ∧ ∀ j, j < n → rd_T31 l' ((i + j : Nat) : Int) = elem (m + 8 * j) := by
  intro n
  induction n with
  | zero =>
    intro i k m l hi hk hm hl
    obtain ⟨k, rfl⟩ : ∃ q, k = q + 1 := ⟨k - 1, by omega⟩
    exact ⟨l, by rw [laws_markStateS.l0, if_neg (by omega)]; rfl, rfl, fun _ _ => rfl, fun j hj => by omega⟩
  | succ n ih =>
    intro i k m l hi hk hm hl
    obtain ⟨k, rfl⟩ : ∃ q, k = q + 1 := ⟨k - 1, by omega⟩
    obtain ⟨l', h1, h2, h3, h4⟩ := ih (i + 1) k (m + 8) (l.set i (elem m)) (by simp; omega) (by omega) (by omega) (by simpa using hl)
    refine ⟨l', ?_, by simpa using h2, fun j hj => ?_, fun j hj => ?_⟩
    · rw [mark_one l i k m (by omega) hl (by omega), h1]
      congr 3
      omega
    · rw [h3 j (by omega)]
      simp [rd_T31, List.getD, List.getElem?_set, show i ≠ j by omega]
    · rcases j with _ | j
      · rw [Nat.add_zero, h3 i (by omega)]
        exact rd_set l i (by omega) _
      · have := h4 j (by omega)
        rw [show i + (j + 1) = i + 1 + j from by omega, this]
        congr 1
        omega
theorem heldStates (l : List S31) (hl : l.length ≤ 1000) : ∀ (n i k m : Nat), i + n = l.length → n < k → m + 8 * n ≤ 1000000 → (∀ j, j < n → rd_T31 l ((i + j : Nat) : Int) = elem (m + 8 * j)) → laws_heldStateS.l0 k l m i = some ((m + 8 * n : Nat) : Int) := by
  intro n
  induction n with
  | zero =>
    intro i k m hi hk hm h
    obtain ⟨k, rfl⟩ : ∃ q, k = q + 1 := ⟨k - 1, by omega⟩
    rw [laws_heldStateS.l0, if_neg (by omega)]
    rfl
  | succ n ih =>
    intro i k m hi hk hm h
    obtain ⟨k, rfl⟩ : ∃ q, k = q + 1 := ⟨k - 1, by omega⟩
    have h0 := h 0 (by omega)
    rw [held_one l i k m (by omega) hl (by omega) h0, ih (i + 1) k (m + 8) (by omega) (by omega) (by omega) (fun j hj => by
      have := h (j + 1) (by omega)
      rw [show i + 1 + j = i + (j + 1) from by omega, this]
      congr 1
      omega)]
    congr 2
    omega
theorem marked (l : List S31) (hl : l.length ≤ 1000) (k : Nat) (hk : l.length < k) : ∃ l', laws_markStateS.f k l 1 = some (((1 + 8 * l.length : Nat) : Int), l') ∧ ∀ k, l.length < k → laws_heldStateS.f k l' 1 = some ((1 + 8 * l.length : Nat) : Int) := by
  obtain ⟨l', h1, h2, _, h4⟩ := markStates l.length 0 k 1 l (by omega) hk (by omega) hl
  refine ⟨l', h1, fun k hk => ?_⟩
  have := heldStates l' (by omega) l.length 0 k 1 (by omega) hk (by omega) h4
  exact this
/-- What both sides answer. -/
theorem both (s : ByteArray) (hs : s.size ≤ 1048576) (t : ByteArray) (ht : t.size ≤ 1048576) (x y a0 a1 a2 a3 a4 a5 : Int) : ∃ (l : List S31) (b : Bool), l.length ≤ 100 ∧ ∀ k, 3 * s.size + t.size + 100 < k →
    spec_StatesAlong.f k s x y a0 a1 a2 a3 a4 a5 t = some (l, b) ∧ impl_StatesAlong.f k s x y a0 a1 a2 a3 a4 a5 t = some (l, b) := by
  cases hw : wayOf s t x y a0 a1 a2 a3 a4 a5 with
  | none =>
    refine ⟨[], false, by simp, fun k hk => ?_⟩
    obtain ⟨g, h1, h2⟩ := impl_way s t hs ht x y a0 a1 a2 a3 a4 a5 k (by omega)
    rw [spec_StatesAlong.f, impl_StatesAlong.f, spec_way s t ht _ _ _ _ _ _ _ _ _ (by omega), h1, hw]
    simp
  | some L =>
    obtain ⟨hl1, hl2⟩ := way_length hw
    refine ⟨L.map sSt, true, by simp; omega, fun k hk => ?_⟩
    obtain ⟨g, h1, h2⟩ := impl_way s t hs ht x y a0 a1 a2 a3 a4 a5 k (by omega)
    obtain rfl := h2 L hw
    rw [spec_StatesAlong.f, impl_StatesAlong.f, spec_way s t ht _ _ _ _ _ _ _ _ _ (by omega), h1, hw]
    simp
theorem statesAlong (s : ByteArray) (x y a0 a1 a2 a3 a4 a5 : Int) (t : ByteArray) : ∃ k, laws_FnExactStatesAlong.f k s x y a0 a1 a2 a3 a4 a5 t = some true := by
  refine ⟨3 * s.size + t.size + 300, ?_⟩
  unfold laws_FnExactStatesAlong.f
  by_cases h : (s.size : Int) > 1048576
  · rw [if_pos h]
  by_cases h' : (t.size : Int) > 1048576
  · rw [if_neg h, if_pos h']
  · obtain ⟨l, b, hl, hb⟩ := both s (by omega) t (by omega) x y a0 a1 a2 a3 a4 a5
    obtain ⟨K, hK⟩ : ∃ K, 3 * s.size + t.size + 300 = K + 2 := ⟨3 * s.size + t.size + 298, by omega⟩
    obtain ⟨p1, p2⟩ := hb (K + 2) (by omega)
    obtain ⟨_, p3⟩ := hb (K + 1) (by omega)
    obtain ⟨l', m1, m2⟩ := marked l (by omega) (K + 1) (by omega)
    rw [if_neg h, if_neg h', laws_toState.f, laws_toDie.f, hK]
    simp only [Option.bind_some]
    rw [p1]
    simp only [Option.bind_some]
    rw [p2]
    simp only [Option.bind_some]
    rw [eqStates_at l (by omega) (K + 2) (by omega)]
    simp only [Option.bind_some, if_true]
    rw [laws_FnExactStatesAlong.j0, if_neg (by simp), m1]
    simp only [Option.bind_some]
    rw [m2 (K + 1) (by omega)]
    simp only [Option.bind_some]
    rw [if_neg (by omega), if_pos trivial, laws_toState.f, laws_toDie.f]
    simp only [Option.bind_some]
    rw [p3]
    simp only [Option.bind_some]
    rw [eqStates_at l (by omega) (K + 1) (by omega)]
    simp only [Option.bind_some, if_true]
    rw [laws_FnExactStatesAlong.j1, if_neg (by simp), m2 K (by omega)]
    simp only [Option.bind_some]
    rw [if_neg (by omega), if_pos trivial]
end Go.Proofs.YtogohilnogcdaaaDoor.PureSA
