/- The plain law on PrintCounts. Conditions: none but that a text has at most 2^47 bytes. -/
import Derived.Test.YtogohilnogcdaaaDoorQCPrintCountsx
import Derived.Test.YtogohilnogcdaaaDoorBase
namespace Go.Proofs.YtogohilnogcdaaaDoor.PurePC
open Go.RowKit Go.Proofs.YtogohilnogcdaaaDoor.QCPrintCounts Go.Proofs.YtogohilnogcdaaaDoorW.PrintWords Go.Proofs.YtogohilnogcdaaaDoorW.PrintLast Go.Proofs.YtogohilnogcdaaaDoor.Board Go.Proofs.YtogohilnogcdaaaDoor.IsDie Go.Proofs.YtogohilnogcdaaaDoor.Base
open Go.Proofs.YtogohilnogcdaaaDoor.Dice (Die roll)
open Go.Proofs.YtogohilnogcdaaaDoor.Dirs (dirOf tup dirs dirs_length)
open Go.Proofs.YtogohilnogcdaaaDoor.Words (letters dirOf_lt isW isW_at dirs_at goodWord good_small)
set_option linter.unusedVariables false
set_option linter.unusedSimpArgs false

abbrev sSt (t : Reach.St) : S31 := ⟨t.x, t.y, ⟨t.d.t, t.d.n, t.d.e, t.d.s, t.d.w, t.d.b⟩⟩
theorem along_spec (s word : ByteArray) (hi : IsB okB s.data.toList) (hg : goodWord word = true) : ∀ (n i k : Nat) (t : Reach.St) (pre : List Reach.St), i + n = word.size → n + 10 < k → inBoard t → pre.length = i →
    spec_boAlong.l0 k word ((pre ++ [t]).map sSt) i (wide s.data.toList) (high s.data.toList) (ints (cells s.data.toList)) t.x t.y t.d.t t.d.n t.d.e t.d.s t.d.w t.d.b = some ((pre ++ path s.data.toList t ((dirs word).drop i)).map sSt) := by
  obtain ⟨h60, hw⟩ := good_small hg
  intro n
  induction n with
  | zero =>
    intro i k t pre hin hk ht hp
    obtain ⟨k, rfl⟩ : ∃ m, k = m + 1 := ⟨k - 1, by omega⟩
    rw [spec_boAlong.l0, if_neg (by omega), List.drop_eq_nil_of_le (by rw [dirs_length]; omega), path]
  | succ n ih =>
    intro i k t pre hin hk ht hp
    obtain ⟨k, rfl⟩ : ∃ m, k = m + 1 := ⟨k - 1, by omega⟩
    have hl : i < word.data.toList.length := by show i < word.size; omega
    rw [spec_boAlong.l0, if_pos (by omega), if_pos (by omega), wrap_up (n := word.size) (by omega) (by omega), if_pos (by omega), if_pos (by omega), Int.toNat_natCast, Int.toNat_natCast]
    simp only [spec_diDir.f, spec_boRoll.f]
    rw [diDir_ch word i hl k (by omega), Option.bind_some, if_pos (isW_at hw i hl), boRoll_eq _ hi t ht.1 ht.2 _ (dirOf_lt _), Option.bind_some, dirs_at word i hl, path]
    by_cases hc : canB s.data.toList t (dirOf word.data.toList[i].toNat) = true
    · rw [if_pos hc, if_pos hc, if_pos rfl, if_pos (by simp; omega)]
      have hm := ih (i + 1) k (moved t (dirOf word.data.toList[i].toNat)) (pre ++ [t]) (by omega) (by omega) (can_in hi hc) (by simp; omega)
      simp only [List.map_append, List.map_cons, List.map_nil, List.append_assoc, List.cons_append, List.nil_append] at hm ⊢
      exact hm
    · rw [if_neg hc, if_neg hc, if_neg (by simp)]
theorem along_impl (s word : ByteArray) (hi : IsB okB s.data.toList) (hg : goodWord word = true) : ∀ (n i k : Nat) (t : Reach.St) (pre : List Reach.St), i + n = word.size → n + 10 < k → inBoard t → pre.length = i →
    impl_grid_along.l0 k (gridOf s) word ((pre ++ [t]).map sSt) word.size i = some ((pre ++ path s.data.toList t ((dirs word).drop i)).map sSt) := by
  obtain ⟨h60, hw⟩ := good_small hg
  intro n
  induction n with
  | zero =>
    intro i k t pre hin hk ht hp
    obtain ⟨k, rfl⟩ : ∃ m, k = m + 1 := ⟨k - 1, by omega⟩
    rw [impl_grid_along.l0, if_neg (by omega), List.drop_eq_nil_of_le (by rw [dirs_length]; omega), path]
  | succ n ih =>
    intro i k t pre hin hk ht hp
    obtain ⟨k, rfl⟩ : ∃ m, k = m + 1 := ⟨k - 1, by omega⟩
    have hl : i < word.data.toList.length := by show i < word.size; omega
    have hrd : rd_T31 ((pre ++ [t]).map sSt) (i : Int) = sSt t := by
      subst hp
      simp [rd_T31, List.getD]
    rw [impl_grid_along.l0, if_pos (by omega), if_pos (by omega), if_pos (by simp; omega), if_pos (by omega), hrd, Base.bt_at word i hl]
    simp only [impl_grid_roll.f]
    rw [gridRoll_eq s hi t ht.1 ht.2, Option.bind_some, dirs_at word i hl, path]
    by_cases hc : canB s.data.toList t (dirOf word.data.toList[i].toNat) = true
    · rw [if_pos (by simpa using hc), if_pos (by simp; omega), if_pos hc, Base.up (by omega)]
      have hm := ih (i + 1) k (moved t (dirOf word.data.toList[i].toNat)) (pre ++ [t]) (by omega) (by omega) (can_in hi hc) (by simp; omega)
      simp only [List.map_append, List.map_cons, List.map_nil, List.append_assoc, List.cons_append, List.nil_append] at hm ⊢
      exact hm
    · rw [if_neg (by simpa using hc), if_neg hc]
theorem spec_path (s word : ByteArray) (hi : IsB okB s.data.toList) (hg : goodWord word = true) (x y a0 a1 a2 a3 a4 a5 : Int) (hin : inBoard ⟨x, y, ⟨a0, a1, a2, a3, a4, a5⟩⟩) (k : Nat) (hk : word.size + 10 < k) :
    spec_boAlong.f k (wide s.data.toList) (high s.data.toList) (ints (cells s.data.toList)) x y a0 a1 a2 a3 a4 a5 word = some ((path s.data.toList ⟨x, y, ⟨a0, a1, a2, a3, a4, a5⟩⟩ (dirs word)).map sSt) :=
  along_spec s word hi hg word.size 0 k ⟨x, y, ⟨a0, a1, a2, a3, a4, a5⟩⟩ [] (by omega) (by omega) hin rfl
theorem impl_path (s word : ByteArray) (hi : IsB okB s.data.toList) (hg : goodWord word = true) (x y a0 a1 a2 a3 a4 a5 : Int) (hin : inBoard ⟨x, y, ⟨a0, a1, a2, a3, a4, a5⟩⟩) (k : Nat) (hk : word.size + 10 < k) :
    impl_grid_along.f k (gridOf s) x y a0 a1 a2 a3 a4 a5 word = some ((path s.data.toList ⟨x, y, ⟨a0, a1, a2, a3, a4, a5⟩⟩ (dirs word)).map sSt) :=
  along_impl s word hi hg word.size 0 k ⟨x, y, ⟨a0, a1, a2, a3, a4, a5⟩⟩ [] (by omega) (by omega) hin rfl

/-- The states along a word that can be rolled along. -/
def wayOf (s word : ByteArray) (x y a0 a1 a2 a3 a4 a5 : Int) : Option (List Reach.St) :=
  if (isB okB s.data.toList && stateB s.data.toList x y a0 a1 a2 a3 a4 a5) = true ∧ goodWord word = true ∧ (path s.data.toList ⟨x, y, ⟨a0, a1, a2, a3, a4, a5⟩⟩ (dirs word)).length = word.size + 1 then some (path s.data.toList ⟨x, y, ⟨a0, a1, a2, a3, a4, a5⟩⟩ (dirs word)) else none
theorem way_length {s word : ByteArray} {x y a0 a1 a2 a3 a4 a5 : Int} {L : List Reach.St} (h : wayOf s word x y a0 a1 a2 a3 a4 a5 = some L) : L.length = word.size + 1 ∧ L.length ≤ 61 := by
  unfold wayOf at h
  by_cases hc : (isB okB s.data.toList && stateB s.data.toList x y a0 a1 a2 a3 a4 a5) = true ∧ goodWord word = true ∧ (path s.data.toList ⟨x, y, ⟨a0, a1, a2, a3, a4, a5⟩⟩ (dirs word)).length = word.size + 1
  · rw [if_pos hc] at h
    obtain rfl := Option.some.inj h
    have := (good_small hc.2.1).1
    exact ⟨hc.2.2, by omega⟩
  · rw [if_neg hc] at h
    cases h
theorem spec_way (s word : ByteArray) (hw : word.size ≤ 1048576) (x y a0 a1 a2 a3 a4 a5 : Int) (k : Nat) (hk : 3 * s.size + word.size + 40 < k) :
    spec_boWay.f k s x y a0 a1 a2 a3 a4 a5 word = some (match wayOf s word x y a0 a1 a2 a3 a4 a5 with
      | some L => (L.map sSt, true)
      | none => ([], false)) := by
  obtain ⟨k, rfl⟩ : ∃ m, k = m + 1 := ⟨k - 1, by omega⟩
  unfold spec_boWay.f wayOf
  simp only [spec_boAsked.f, spec_diWord.f]
  rw [asked_at s _ _ _ _ _ _ _ _ _ (by omega), diWord_at word hw _ (by omega)]
  simp only [Option.bind_some]
  cases hc : isB okB s.data.toList with
  | false => simp [spec_boWay.j0]
  | true =>
    have hi := isB_iff.1 hc
    rw [if_pos rfl, Bool.true_and]
    simp only
    cases hst : stateB s.data.toList x y a0 a1 a2 a3 a4 a5 with
    | false => simp [spec_boWay.j0]
    | true =>
      cases hg : goodWord word with
      | false => simp [spec_boWay.j0]
      | true =>
        have hin : inBoard ⟨x, y, ⟨a0, a1, a2, a3, a4, a5⟩⟩ := state_in hi hst
        have h60 := (good_small hg).1
        have e : wrap64 ((word.size : Int) + 1) = ((word.size + 1 : Nat) : Int) := by unfold wrap64; omega
        rw [if_pos rfl, spec_boWay.j0, if_neg (by decide), spec_path s word hi hg _ _ _ _ _ _ _ _ hin _ (by omega), Option.bind_some, e, List.length_map]
        by_cases hl : (path s.data.toList ⟨x, y, ⟨a0, a1, a2, a3, a4, a5⟩⟩ (dirs word)).length = word.size + 1
        · rw [if_pos (by omega), if_pos ⟨rfl, rfl, hl⟩]
        · rw [if_neg (by omega), if_neg (fun h => hl h.2.2)]
theorem impl_way (s word : ByteArray) (hs : s.size ≤ 1048576) (hw : word.size ≤ 1048576) (x y a0 a1 a2 a3 a4 a5 : Int) (k : Nat) (hk : 3 * s.size + word.size + 40 < k) :
    ∃ g, impl_statesAlong.f k s x y a0 a1 a2 a3 a4 a5 word = some (g, (wayOf s word x y a0 a1 a2 a3 a4 a5).isSome) ∧ ∀ L, wayOf s word x y a0 a1 a2 a3 a4 a5 = some L → g = L.map sSt := by
  obtain ⟨g, h1, h2⟩ := onBoard_at s hs x y a0 a1 a2 a3 a4 a5 k (by omega)
  unfold impl_statesAlong.f wayOf
  simp only [impl_onBoard.f, impl_IsRolls.f]
  rw [h1, isRolls_eq word hw]
  simp only [Option.bind_some]
  cases hc : isB okB s.data.toList with
  | false => exact ⟨[], by simp, fun L h => by simp at h⟩
  | true =>
    obtain rfl := h2 hc
    have hi := isB_iff.1 hc
    rw [Bool.true_and]
    cases hst : stateB s.data.toList x y a0 a1 a2 a3 a4 a5 with
    | false => exact ⟨[], by simp, fun L h => by simp at h⟩
    | true =>
      cases hg : goodWord word with
      | false => exact ⟨[], by simp, fun L h => by simp at h⟩
      | true =>
        have hin : inBoard ⟨x, y, ⟨a0, a1, a2, a3, a4, a5⟩⟩ := state_in hi hst
        have h60 := (good_small hg).1
        have e : wrap64 ((word.size : Int) + 1) = ((word.size + 1 : Nat) : Int) := by unfold wrap64; omega
        rw [if_pos rfl, if_pos rfl, impl_path s word hi hg _ _ _ _ _ _ _ _ hin _ (by omega), Option.bind_some, e, List.length_map]
        by_cases hl : (path s.data.toList ⟨x, y, ⟨a0, a1, a2, a3, a4, a5⟩⟩ (dirs word)).length = word.size + 1
        · refine ⟨(path s.data.toList ⟨x, y, ⟨a0, a1, a2, a3, a4, a5⟩⟩ (dirs word)).map sSt, ?_, fun L h => ?_⟩
          · rw [if_pos ⟨rfl, rfl, hl⟩, hl]
            simp
          · rw [if_pos ⟨rfl, rfl, hl⟩] at h
            rw [Option.some.inj h]
        · refine ⟨(path s.data.toList ⟨x, y, ⟨a0, a1, a2, a3, a4, a5⟩⟩ (dirs word)).map sSt, ?_, fun L h => ?_⟩
          · rw [if_neg (fun h => hl h.2.2)]
            have hb : (((path s.data.toList ⟨x, y, ⟨a0, a1, a2, a3, a4, a5⟩⟩ (dirs word)).length : Int) == ((word.size + 1 : Nat) : Int)) = false := by
              rw [beq_eq_false_iff_ne]
              omega
            rw [hb]
            rfl
          · rw [if_neg (fun h => hl h.2.2)] at h
            cases h
theorem rd_way (L : List Reach.St) (i : Nat) (h : i < L.length) : rd_T31 (L.map sSt) (i : Int) = sSt L[i] := by
  simp [rd_T31, List.getD, h]

/-- How often each number is met. -/
def cnt (a : List Int) : List Reach.St → List Int
  | [] => a
  | t :: L => cnt (a.set t.d.b.toNat (wrap64 (rd a t.d.b + 1))) L
theorem cnt_length : ∀ (L : List Reach.St) (a : List Int), (cnt a L).length = a.length
  | [], a => rfl
  | t :: L, a => by rw [cnt, cnt_length, List.length_set]
theorem path_bottom (l : List UInt8) : ∀ (ks : List Nat) (t : Reach.St), good t.d.t t.d.n t.d.e t.d.s t.d.w t.d.b = true → ∀ u ∈ path l t ks, 0 ≤ u.d.b ∧ u.d.b < 10
  | [], t, h => by
    intro u hu
    rw [path, List.mem_singleton] at hu
    subst hu
    simp only [good, List.all_cons, Bool.and_eq_true, inB_iff] at h
    omega
  | k :: ks, t, h => by
    intro u hu
    rw [path] at hu
    have h0 : 0 ≤ t.d.b ∧ t.d.b < 10 := by
      simp only [good, List.all_cons, Bool.and_eq_true, inB_iff] at h
      omega
    by_cases hc : canB l t k = true
    · rw [if_pos hc, List.mem_cons] at hu
      rcases hu with rfl | hu
      · exact h0
      · refine path_bottom l ks (moved t k) ?_ u hu
        simp only [good, List.all_cons, List.all_nil, Bool.and_eq_true, inB_iff] at h ⊢
        unfold moved roll
        rcases k with _ | _ | _ | k <;> simp <;> omega
    · rw [if_neg hc, List.mem_singleton] at hu
      subst hu
      exact h0
theorem icnt_l0 (L : List Reach.St) (hL : L.length ≤ 61) (hg : ∀ u ∈ L, 0 ≤ u.d.b ∧ u.d.b < 10) : ∀ (n i k : Nat) (a : List Int), i + n = L.length → n < k → a.length = 10 →
    impl_PrintCounts.l0 k a (L.map sSt) ((L.map sSt).length : Int) i = some (cnt a (L.drop i), true) := by
  have hlen : ((L.map sSt).length : Int) = (L.length : Int) := by simp
  intro n
  induction n with
  | zero =>
    intro i k a hi hk ha
    obtain ⟨k, rfl⟩ : ∃ m, k = m + 1 := ⟨k - 1, by omega⟩
    rw [impl_PrintCounts.l0, hlen, if_neg (by omega), List.drop_eq_nil_of_le (by omega), cnt]
  | succ n ih =>
    intro i k a hi hk ha
    obtain ⟨k, rfl⟩ : ∃ m, k = m + 1 := ⟨k - 1, by omega⟩
    have hl : i < L.length := by omega
    obtain ⟨b0, b1⟩ := hg L[i] (List.getElem_mem hl)
    rw [impl_PrintCounts.l0, hlen, if_pos (by omega), if_pos (by omega), if_pos (by omega), rd_way L i hl, if_pos b0, if_pos (by simpa [ha] using b1), List.drop_eq_getElem_cons hl, Base.up (by omega), ← hlen, ih (i + 1) k _ (by omega) (by omega) (by rw [List.length_set, ha]), cnt]
theorem scnt_l0 (L : List Reach.St) (hL : L.length ≤ 61) (hg : ∀ u ∈ L, 0 ≤ u.d.b ∧ u.d.b < 10) : ∀ (n i k : Nat) (a : List Int), i + n = L.length → n < k → a.length = 10 →
    spec_PrintCounts.l0 k a (L.map sSt) ((L.map sSt).length : Int) i = some (cnt a (L.drop i), true) := by
  have hlen : ((L.map sSt).length : Int) = (L.length : Int) := by simp
  intro n
  induction n with
  | zero =>
    intro i k a hi hk ha
    obtain ⟨k, rfl⟩ : ∃ m, k = m + 1 := ⟨k - 1, by omega⟩
    rw [spec_PrintCounts.l0, hlen, if_neg (by omega), List.drop_eq_nil_of_le (by omega), cnt]
  | succ n ih =>
    intro i k a hi hk ha
    obtain ⟨k, rfl⟩ : ∃ m, k = m + 1 := ⟨k - 1, by omega⟩
    have hl : i < L.length := by omega
    obtain ⟨b0, b1⟩ := hg L[i] (List.getElem_mem hl)
    rw [spec_PrintCounts.l0, hlen, if_pos (by omega), if_pos (by omega), if_pos (by omega), rd_way L i hl, if_pos b0, if_pos (by simpa [ha] using b1), List.drop_eq_getElem_cons hl, Base.up (by omega), ← hlen, ih (i + 1) k _ (by omega) (by omega) (by rw [List.length_set, ha]), cnt]
/-! ### Lists of numbers: compared, marked, asked -/
theorem eqInts (l : List Int) (hl : l.length ≤ 1000) : ∀ (n i k : Nat), i + n = l.length → n < k → laws_eqIntS.l0 k l l i = some true := by
  intro n
  induction n with
  | zero =>
    intro i k hi hk
    obtain ⟨k, rfl⟩ : ∃ m, k = m + 1 := ⟨k - 1, by omega⟩
    rw [laws_eqIntS.l0, if_neg (by omega)]
  | succ n ih =>
    intro i k hi hk
    obtain ⟨k, rfl⟩ : ∃ m, k = m + 1 := ⟨k - 1, by omega⟩
    rw [laws_eqIntS.l0, if_pos (by omega), if_pos (by omega), if_pos (by omega), if_pos rfl, Base.up (by omega)]
    exact ih (i + 1) k (by omega) (by omega)
theorem eqInts_at (l : List Int) (hl : l.length ≤ 1000) (k : Nat) (hk : l.length < k) : laws_eqIntS.f k l l = some true := by
  rw [laws_eqIntS.f, if_pos rfl]
  exact eqInts l hl l.length 0 k (by omega) (by omega)
/-- What is left behind a marking: m, m+1, .. from a place on. -/
theorem markInts : ∀ (n i k m : Nat) (l : List Int), i + n = l.length → n < k → m + n ≤ 1000000 → n ≤ 1000 → l.length ≤ 1000 →
    ∃ l', laws_markIntS.l0 k l m i = some (((m + n : Nat) : Int), l') ∧ l'.length = l.length ∧ (∀ j, j < i → l'.getD j 0 = l.getD j 0) ∧ ∀ j, j < n → l'.getD (i + j) 0 = ((m + j : Nat) : Int) := by
  intro n
  induction n with
  | zero =>
    intro i k m l hi hk hm hn hl
    obtain ⟨k, rfl⟩ : ∃ q, k = q + 1 := ⟨k - 1, by omega⟩
    exact ⟨l, by rw [laws_markIntS.l0, if_neg (by omega)]; rfl, rfl, fun _ _ => rfl, fun j hj => by omega⟩
  | succ n ih =>
    intro i k m l hi hk hm hn hl
    obtain ⟨k, rfl⟩ : ∃ q, k = q + 1 := ⟨k - 1, by omega⟩
    obtain ⟨l', h1, h2, h3, h4⟩ := ih (i + 1) k (m + 1) (l.set i m) (by simp; omega) (by omega) (by omega) (by omega) (by simpa using hl)
    refine ⟨l', ?_, by simpa using h2, fun j hj => ?_, fun j hj => ?_⟩
    · rw [laws_markIntS.l0, if_pos (by omega), if_pos (by omega), Base.up (by omega), Base.up (by omega), Int.toNat_natCast, h1]
      congr 3
      omega
    · rw [h3 j (by omega)]
      simp [List.getD, List.getElem?_set, show i ≠ j by omega]
    · rcases j with _ | j
      · rw [Nat.add_zero, h3 i (by omega)]
        simp [List.getD, show i < l.length by omega]
      · have := h4 j (by omega)
        rw [show i + (j + 1) = i + 1 + j from by omega, this]
        congr 1
        omega
theorem heldInts (l : List Int) (hl : l.length ≤ 1000) : ∀ (n i k m : Nat), i + n = l.length → n < k → m + n ≤ 1000000 → (∀ j, j < n → l.getD (i + j) 0 = ((m + j : Nat) : Int)) → laws_heldIntS.l0 k l m i = some ((m + n : Nat) : Int) := by
  intro n
  induction n with
  | zero =>
    intro i k m hi hk hm h
    obtain ⟨k, rfl⟩ : ∃ q, k = q + 1 := ⟨k - 1, by omega⟩
    rw [laws_heldIntS.l0, if_neg (by omega)]
    rfl
  | succ n ih =>
    intro i k m hi hk hm h
    obtain ⟨k, rfl⟩ : ∃ q, k = q + 1 := ⟨k - 1, by omega⟩
    have h0 := h 0 (by omega)
    rw [Nat.add_zero, Nat.add_zero] at h0
    have hr : rd l (i : Int) = (m : Int) := by rw [rd, Int.toNat_natCast, h0]
    rw [laws_heldIntS.l0, if_pos (by omega), if_pos (by omega), hr, if_pos rfl, Base.up (by omega), Base.up (by omega), ih (i + 1) k (m + 1) (by omega) (by omega) (by omega) (fun j hj => by
      have := h (j + 1) (by omega)
      rw [show i + 1 + j = i + (j + 1) from by omega, this]
      congr 1
      omega)]
    congr 2
    omega
theorem marked (l : List Int) (hl : l.length ≤ 1000) (k : Nat) (hk : l.length < k) : ∃ l', laws_markIntS.f k l 1 = some (((1 + l.length : Nat) : Int), l') ∧ ∀ k, l.length < k → laws_heldIntS.f k l' 1 = some ((1 + l.length : Nat) : Int) := by
  obtain ⟨l', h1, h2, _, h4⟩ := markInts l.length 0 k 1 l (by omega) hk (by omega) hl hl
  refine ⟨l', h1, fun k hk => ?_⟩
  have := heldInts l' (by omega) l.length 0 k 1 (by omega) hk (by omega) h4
  exact this

/-- What both sides answer. -/
theorem both (s : ByteArray) (hs : s.size ≤ 1048576) (t : ByteArray) (ht : t.size ≤ 1048576) (x y a0 a1 a2 a3 a4 a5 : Int) : ∃ (l : List Int) (b : Bool), l.length ≤ 100 ∧ ∀ k, 3 * s.size + t.size + 100 < k →
    spec_PrintCounts.f k s x y a0 a1 a2 a3 a4 a5 t = some (l, b) ∧ impl_PrintCounts.f k s x y a0 a1 a2 a3 a4 a5 t = some (l, b) := by
  cases hw : wayOf s t x y a0 a1 a2 a3 a4 a5 with
  | none =>
    refine ⟨[], false, by simp, fun k hk => ?_⟩
    obtain ⟨g, h1, h2⟩ := impl_way s t hs ht x y a0 a1 a2 a3 a4 a5 k (by omega)
    rw [spec_PrintCounts.f, impl_PrintCounts.f, spec_way s t ht _ _ _ _ _ _ _ _ _ (by omega), h1, hw]
    simp
  | some L =>
    obtain ⟨hl1, hl2⟩ := way_length hw
    have hg : ∀ u ∈ L, 0 ≤ u.d.b ∧ u.d.b < 10 := by
      unfold wayOf at hw
      split at hw
      · rename_i hc
        obtain rfl := Option.some.inj hw
        have h1 := hc.1
        rw [Bool.and_eq_true] at h1
        have h2 := h1.2
        unfold stateB at h2
        rw [Bool.and_eq_true] at h2
        exact path_bottom _ _ _ h2.2
      · cases hw
    refine ⟨cnt (List.replicate 10 0) L, true, by rw [cnt_length]; simp, fun k hk => ?_⟩
    obtain ⟨g, h1, h2⟩ := impl_way s t hs ht x y a0 a1 a2 a3 a4 a5 k (by omega)
    obtain rfl := h2 L hw
    have q1 := scnt_l0 L hl2 hg L.length 0 k (List.replicate 10 0) (by omega) (by omega) (by simp)
    have q2 := icnt_l0 L hl2 hg L.length 0 k (List.replicate 10 0) (by omega) (by omega) (by simp)
    rw [List.drop_zero] at q1 q2
    rw [spec_PrintCounts.f, impl_PrintCounts.f, spec_way s t ht _ _ _ _ _ _ _ _ _ (by omega), h1, hw]
    simp only [Option.bind_some, Option.isSome_some, if_true]
    rw [if_pos (by decide), if_pos (by decide)]
    exact ⟨q1, q2⟩

theorem printCounts (s : ByteArray) (x y a0 a1 a2 a3 a4 a5 : Int) (t : ByteArray) : ∃ k, laws_FnExactPrintCounts.f k s x y a0 a1 a2 a3 a4 a5 t = some true := by
  refine ⟨3 * s.size + t.size + 300, ?_⟩
  unfold laws_FnExactPrintCounts.f
  by_cases h : (s.size : Int) > 1048576
  · rw [if_pos h]
  by_cases h' : (t.size : Int) > 1048576
  · rw [if_neg h, if_pos h']
  · obtain ⟨l, b, hl, hb⟩ := both s (by omega) t (by omega) x y a0 a1 a2 a3 a4 a5
    obtain ⟨K, hK⟩ : ∃ K, 3 * s.size + t.size + 300 = K + 2 := ⟨3 * s.size + t.size + 298, by omega⟩
    obtain ⟨p1, p2⟩ := hb (K + 2) (by omega)
    obtain ⟨_, p3⟩ := hb (K + 1) (by omega)
    obtain ⟨l', m1, m2⟩ := marked l (by omega) (K + 1) (by omega)
    rw [if_neg h, if_neg h', laws_toState.f, laws_toDie.f, hK]
    simp only [Option.bind_some]
    rw [p1]
    simp only [Option.bind_some]
    rw [p2]
    simp only [Option.bind_some]
    rw [eqInts_at l (by omega) (K + 2) (by omega)]
    simp only [Option.bind_some, if_true]
    rw [laws_FnExactPrintCounts.j0, if_neg (by simp), m1]
    simp only [Option.bind_some]
    rw [m2 (K + 1) (by omega)]
    simp only [Option.bind_some]
    rw [if_neg (by omega), if_pos trivial, laws_toState.f, laws_toDie.f]
    simp only [Option.bind_some]
    rw [p3]
    simp only [Option.bind_some]
    rw [eqInts_at l (by omega) (K + 1) (by omega)]
    simp only [Option.bind_some, if_true]
    rw [laws_FnExactPrintCounts.j1, if_neg (by simp), m2 K (by omega)]
    simp only [Option.bind_some]
    rw [if_neg (by omega), if_pos trivial]
end Go.Proofs.YtogohilnogcdaaaDoor.PurePC
